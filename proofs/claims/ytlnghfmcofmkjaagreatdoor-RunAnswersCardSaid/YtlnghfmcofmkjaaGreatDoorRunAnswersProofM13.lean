/- spent: More by contract. vault: New, Spend, Sync, Crash, Has, Sure by contracts. server: New, Waiting, Pull by contracts. -/
import Derived.Test.YtlnghfmcofmkjaaGreatDoorRunAnswersProofM12
import Derived.Test.YtlnghfmcofmkjaaGreatDoorRunAnswersProofM10
import Derived.Test.YtlnghfmcofmkjaaGreatDoorRunAnswersProofM7
namespace Go.Proofs.YtlnghfmcofmkjaaGreatDoor
open Go.RowKit

/-- the fault of one more -/
def spMoreE (zs : List (Int × Int)) (n u now : Int) : Int :=
  if (inB n && tmB u && tmB now) = false then 1 else if u < now then 9 else if (spDrop zs now).any (fun x => x.1 == n) = true then 7 else if (spDrop zs now).length = 16 then 4 else 0
theorem spDrop_le (zs : List (Int × Int)) (now : Int) : (spDrop zs now).length ≤ zs.length := List.length_filter_le _ _
set_option maxRecDepth 100000 in
set_option maxHeartbeats 4000000 in
theorem spMore_bad {n u now c : Int} {zs : List (Int × Int)} (hc : spMoreE zs n u now = c) (h0 : c ≠ 0) (v : Value) (w : World) (hv : PSl w v zs) :
    Calls Tryz.prog 149 #[v, .int .i64 n, .int .i64 u, .int .i64 now] w fun e w' => e = .returned (.tuple #[.slice none 0 0, errV c]) ∧ Below w.heap.size w w' := by
  have IN := hide (fun W => tagIn n W)
  have TU := hide (fun W => tokenTime u W)
  have TW := hide (fun W => tokenTime now W)
  have hl := hv.1
  have CL := hide (spLeft now v zs w hv)
  unfold spMoreE at hc
  clear hv
  cases hn : inB n
  · rw [hn] at IN
    rw [if_pos (by simp [hn])] at hc
    subst hc
    clear CL h0 hn
    go_enter Tryz.func149, Tryz.ntmps149
    go_wp2_with fail
    refine (IN.out _).mono ?_
    rintro e w500 ⟨rfl, rfl⟩
    go_wp2
    go_ret2
    exact ⟨rfl, Below.refl _ _⟩
  · rw [hn] at IN
    cases hu : tmB u
    · rw [hu] at TU
      rw [if_pos (by simp [hu])] at hc
      subst hc
      clear CL h0 hn hu
      go_enter Tryz.func149, Tryz.ntmps149
      go_wp2_with fail
      refine (IN.out _).mono ?_
      rintro e w500 ⟨rfl, rfl⟩
      go_wp2_with fail
      refine (TU.out _).mono ?_
      rintro e w500 ⟨rfl, rfl⟩
      go_wp2
      go_ret2
      exact ⟨rfl, Below.refl _ _⟩
    · rw [hu] at TU
      cases hw : tmB now
      · rw [hw] at TW
        rw [if_pos (by simp [hw])] at hc
        subst hc
        clear CL h0 hn hu hw
        go_enter Tryz.func149, Tryz.ntmps149
        go_wp2_with fail
        refine (IN.out _).mono ?_
        rintro e w500 ⟨rfl, rfl⟩
        go_wp2_with fail
        refine (TU.out _).mono ?_
        rintro e w500 ⟨rfl, rfl⟩
        go_wp2_with fail
        refine (TW.out _).mono ?_
        rintro e w500 ⟨rfl, rfl⟩
        go_wp2
        go_ret2
        exact ⟨rfl, Below.refl _ _⟩
      · rw [hw] at TW
        rw [if_neg (by simp [hn, hu, hw])] at hc
        clear hn hu hw
        by_cases h9 : u < now
        · rw [if_pos h9] at hc
          subst hc
          clear h0
          go_enter Tryz.func149, Tryz.ntmps149
          go_wp2_with fail
          refine (IN.out _).mono ?_
          rintro e w500 ⟨rfl, rfl⟩
          go_wp2_with fail
          refine (TU.out _).mono ?_
          rintro e w500 ⟨rfl, rfl⟩
          go_wp2_with fail
          refine (TW.out _).mono ?_
          rintro e w500 ⟨rfl, rfl⟩
          go_wp2_with fail
          refine CL.out.mono ?_
          rintro e w1 ⟨v1, rfl, hown1, hb1⟩
          clear hown1
          go_wp2
          go_ret2
          exact ⟨rfl, hb1⟩
        · rw [if_neg h9] at hc
          have h9' : now ≤ u := by omega
          obtain ⟨ds, hds⟩ : ∃ ds, ds = spDrop zs now := ⟨_, rfl⟩
          have hdl : ds.length ≤ 1000 := by rw [hds]; exact Nat.le_trans (spDrop_le zs now) hl
          rw [← hds] at CL hc
          obtain ⟨av, hav⟩ : ∃ av, av = ds.any (fun x => x.1 == n) := ⟨_, rfl⟩
          rw [← hav] at hc
          have HAV := hide hav
          clear hds hav h9
          cases av
          · rw [if_neg (by simp)] at hc
            by_cases h16 : ds.length = 16
            · rw [if_pos h16] at hc
              subst hc
              have t16 : ((ds.length : Int) == 16) = true := by simp [h16]
              clear h0 h16
              go_enter Tryz.func149, Tryz.ntmps149
              go_wp2_with fail
              refine (IN.out _).mono ?_
              rintro e w500 ⟨rfl, rfl⟩
              go_wp2_with fail
              refine (TU.out _).mono ?_
              rintro e w500 ⟨rfl, rfl⟩
              go_wp2_with fail
              refine (TW.out _).mono ?_
              rintro e w500 ⟨rfl, rfl⟩
              go_wp2_with fail
              refine CL.out.mono ?_
              rintro e w1 ⟨v1, rfl, hown1, hb1⟩
              have CI := hide (spIs n v1 ds w1 (own_psl hown1 hdl))
              rw [← HAV.out] at CI
              obtain ⟨a1, c1, hv1⟩ : ∃ a c, v1 = .slice a ds.length c := by
                rcases hown1.2 with ⟨h1, h2⟩ | ⟨g, cap, cur, h1, _⟩
                · exact ⟨none, 0, by rw [h1, h2]⟩
                · exact ⟨_, _, h1⟩
              subst hv1
              have HOWN := hide hown1
              have HB1 := hide hb1
              have hs1 : w.heap.size ≤ w1.heap.size := hb1.size
              clear hown1 hb1
              go_wp2_with fail
              refine CI.out.mono ?_
              rintro e w2 ⟨rfl, hb2⟩
              go_wp2
              go_ret2
              exact ⟨rfl, HB1.out.trans (hb2.mono hs1)⟩
            · rw [if_neg h16] at hc; exact absurd hc.symm h0
          · rw [if_pos rfl] at hc
            subst hc
            clear h0
            go_enter Tryz.func149, Tryz.ntmps149
            go_wp2_with fail
            refine (IN.out _).mono ?_
            rintro e w500 ⟨rfl, rfl⟩
            go_wp2_with fail
            refine (TU.out _).mono ?_
            rintro e w500 ⟨rfl, rfl⟩
            go_wp2_with fail
            refine (TW.out _).mono ?_
            rintro e w500 ⟨rfl, rfl⟩
            go_wp2_with fail
            refine CL.out.mono ?_
            rintro e w1 ⟨v1, rfl, hown1, hb1⟩
            have CI := hide (spIs n v1 ds w1 (own_psl hown1 hdl))
            rw [← HAV.out] at CI
            obtain ⟨a1, c1, hv1⟩ : ∃ a c, v1 = .slice a ds.length c := by
              rcases hown1.2 with ⟨h1, h2⟩ | ⟨g, cap, cur, h1, _⟩
              · exact ⟨none, 0, by rw [h1, h2]⟩
              · exact ⟨_, _, h1⟩
            subst hv1
            have HOWN := hide hown1
            have HB1 := hide hb1
            have hs1 : w.heap.size ≤ w1.heap.size := hb1.size
            clear hown1 hb1
            go_wp2_with fail
            refine CI.out.mono ?_
            rintro e w2 ⟨rfl, hb2⟩
            go_wp2
            go_ret2
            exact ⟨rfl, HB1.out.trans (hb2.mono hs1)⟩
set_option maxRecDepth 100000 in
set_option maxHeartbeats 4000000 in
theorem spMore_ok {n u now : Int} {zs : List (Int × Int)} (hc : spMoreE zs n u now = 0) (v : Value) (w : World) (hv : PSl w v zs) :
    Calls Tryz.prog 149 #[v, .int .i64 n, .int .i64 u, .int .i64 now] w fun e w' => ∃ v', e = .returned (.tuple #[v', .nilIface]) ∧ w'.ownsRow (w.heap.size + 1) 173 2 v' (spDrop zs now ++ [(n, u)]).length (flat (spDrop zs now ++ [(n, u)])) ∧ Below w.heap.size w w' := by
  have hl := hv.1
  unfold spMoreE at hc
  cases hx : (inB n && tmB u && tmB now)
  · rw [if_pos hx] at hc; omega
  rw [if_neg (by simp [hx])] at hc
  simp only [Bool.and_eq_true] at hx
  by_cases h9 : u < now
  · rw [if_pos h9] at hc; omega
  rw [if_neg h9] at hc
  have IN := hide (fun W => tagIn_eq hx.1.1 W)
  have TU := hide (fun W => tokenTime_eq hx.1.2 W)
  have TW := hide (fun W => tokenTime_eq hx.2 W)
  have h9' : now ≤ u := by omega
  have CL := hide (spLeft now v zs w hv)
  obtain ⟨ds, hds⟩ : ∃ ds, ds = spDrop zs now := ⟨_, rfl⟩
  have hdl : ds.length ≤ 1000 := by rw [hds]; exact Nat.le_trans (spDrop_le zs now) hl
  rw [← hds] at CL hc ⊢
  cases hav : ds.any (fun x => x.1 == n)
  · rw [hav, if_neg (by simp)] at hc
    by_cases h16 : ds.length = 16
    · rw [if_pos h16] at hc; omega
    have HAV := hide hav
    have t16 : ((ds.length : Int) == 16) = false := beq_eq_false_iff_ne.2 (by omega)
    obtain ⟨i0, hi0, hz0, hz1, hz2⟩ := info_parts Tryz.infoSp
    have Hi0 := hide hi0
    have Hz0 := hide hz0
    have Hz1 := hide hz1
    have Hz2 := hide hz2
    clear hv hc hx h9 hds hav h16 hi0 hz0 hz1 hz2
    go_enter Tryz.func149, Tryz.ntmps149
    go_wp2_with fail
    refine (IN.out _).mono ?_
    rintro e w500 ⟨rfl, rfl⟩
    go_wp2_with fail
    refine (TU.out _).mono ?_
    rintro e w500 ⟨rfl, rfl⟩
    go_wp2_with fail
    refine (TW.out _).mono ?_
    rintro e w500 ⟨rfl, rfl⟩
    go_wp2_with fail
    refine CL.out.mono ?_
    rintro e w1 ⟨v1, rfl, hown1, hb1⟩
    have CI := hide (spIs n v1 ds w1 (own_psl hown1 hdl))
    rw [HAV.out] at CI
    obtain ⟨a1, c1, hv1⟩ : ∃ a c, v1 = .slice a ds.length c := by
      rcases hown1.2 with ⟨h1, h2⟩ | ⟨g, cap, cur, h1, _⟩
      · exact ⟨none, 0, by rw [h1, h2]⟩
      · exact ⟨_, _, h1⟩
    subst hv1
    have HOWN := hide hown1
    have HB1 := hide hb1
    have hs1 : w.heap.size ≤ w1.heap.size := hb1.size
    clear hown1 hb1
    go_wp2_with fail
    refine CI.out.mono ?_
    rintro e w2 ⟨rfl, hb2⟩
    have own2 := own_below HOWN.out hb2
    have HB2 := hide (HB1.out.trans (hb2.mono hs1))
    have hs2 : w.heap.size ≤ w2.heap.size := by have := hb2.size; omega
    clear hb2
    go_wp2_with (first | (at_builtin; refine wpList_append_own _ rfl _ _ 58 rfl (w.heap.size + 1) 173 i0 _ 2 16 Tryz.underlying58 Hi0.out Hz0.out Hz1.out Hz2.out rfl (by decide) _ _ _ rfl (own2.alloc _) ⟨w2.heap.size, 0, none⟩ 1 1 [.int .i64 n, .int .i64 u] rfl rfl ?c1 ?c2 ?c3 ?c4 ?c5 ?_))
    case c1 =>
      intro j q hj
      match j, hj with
      | 0, hj => simp at hj; subst hj; simp [Addr.add]
      | 1, hj => simp at hj; subst hj; simp [Addr.add]
    case c2 =>
      intro q hq
      simp at hq
      rcases hq with rfl | rfl <;> rfl
    case c3 => unfold maxLen; omega
    case c4 => omega
    case c5 => simp; omega
    intro v2 w40 hown2 hgrow _
    have hg0 : ∀ q, (Value.slice a1 ds.length c1).ownBlock = some q → w.heap.size + 1 ≤ q := own_blk own2
    have HB40 := hide (grown_below (HB2.out.alloc (by omega) _) hgrow (fun q hq => by have := hg0 q hq; omega) (by simp; omega))
    have HO := hide hown2
    clear hown2 hgrow own2 hg0
    go_wp2
    exact bodyPost_ret (v := .tuple #[v2, .nilIface]) (by simp [results, Tryz.results149, go_sem, *]) rfl ⟨v2, rfl, by have q := HO.out; rw [flat_append]; simpa [flat_cons, flat_nil] using q, HB40.out⟩
  · rw [hav, if_pos rfl] at hc; omega
theorem spMore_cases (zs : List (Int × Int)) (n u now : Int) : (spMoreE zs n u now = 0 ∧ inB n = true ∧ tmB u = true ∧ tmB now = true ∧ now ≤ u ∧ (spDrop zs now).any (fun x => x.1 == n) = false ∧ (spDrop zs now).length ≠ 16) ∨ spMoreE zs n u now ≠ 0 := by
  by_cases h : spMoreE zs n u now = 0
  · refine .inl ⟨h, ?_⟩
    unfold spMoreE at h
    cases hx : (inB n && tmB u && tmB now)
    · rw [if_pos hx] at h; omega
    rw [if_neg (by simp [hx])] at h
    simp only [Bool.and_eq_true] at hx
    by_cases h9 : u < now
    · rw [if_pos h9] at h; omega
    rw [if_neg h9] at h
    cases hav : (spDrop zs now).any (fun x => x.1 == n)
    · rw [hav, if_neg (by simp)] at h
      exact ⟨hx.1.1, hx.1.2, hx.2, by omega, rfl, fun h16 => by rw [if_pos h16] at h; omega⟩
    · rw [hav, if_pos rfl] at h; omega
  · exact .inr h
end Go.Proofs.YtlnghfmcofmkjaaGreatDoor

namespace Go.Proofs.YtlnghfmcofmkjaaGreatDoor
open Go.RowKit

/-- A slice of pairs that does not lie in block b. -/
def VR (w : World) (b : Nat) (v : Value) (zs : List (Int × Int)) : Prop := PSl w v zs ∧ v.ownBlock ≠ some b
/-- Block b is a Vault of these. -/
def VAt (w : World) (b : Nat) (zs ks : List (Int × Int)) : Prop := ∃ v1 v2, ObjAt w b 116 [v1, v2] ∧ VR w b v1 zs ∧ VR w b v2 ks
theorem PSl.kept {S : List Nat} {w w' : World} {v : Value} {zs : List (Int × Int)} (h : PSl w v zs) (hk : Kept S w w') (hn : ∀ x, x ∈ S → v.ownBlock ≠ some x) : PSl w' v zs := by
  refine ⟨h.1, ?_⟩
  rcases h.2 with h | ⟨b, off, c, rfl, h2, h3, h4⟩
  · exact .inl h
  · have hb : b ∉ S := fun hx => hn b hx rfl
    exact .inr ⟨b, off, c, rfl, h2, Nat.lt_of_lt_of_le h3 hk.size, fun j hj => ⟨(hk.cell (p := ⟨b, off + j * 2, none⟩) h3 hb).trans (h4 j hj).1, (hk.cell (p := ⟨b, off + j * 2 + 1, none⟩) h3 hb).trans (h4 j hj).2⟩⟩
theorem VR.kept {w w' : World} {b : Nat} {v : Value} {zs : List (Int × Int)} (h : VR w b v zs) (hk : Kept [b] w w') : VR w' b v zs :=
  ⟨h.1.kept hk (fun x hx => by simp at hx; subst hx; exact h.2), h.2⟩
theorem VR.below {w w' : World} {b : Nat} {v : Value} {zs : List (Int × Int)} (h : VR w b v zs) (hB : Below w.heap.size w w') : VR w' b v zs := ⟨h.1.below hB, h.2⟩
theorem VAt.below {w w' : World} {b : Nat} {zs ks : List (Int × Int)} (h : VAt w b zs ks) (hB : Below w.heap.size w w') : VAt w' b zs ks := by
  obtain ⟨v1, v2, h1, h2, h3⟩ := h
  exact ⟨v1, v2, h1.below hB, h2.below hB, h3.below hB⟩
theorem VAt.lt {w : World} {b : Nat} {zs ks : List (Int × Int)} (h : VAt w b zs ks) : b < w.heap.size := by
  obtain ⟨v1, v2, h1, _⟩ := h; exact h1.lt
theorem own_vr {w : World} {base b : Nat} {e : TypeId} {v : Value} {zs : List (Int × Int)} (h : w.ownsRow base e 2 v zs.length (flat zs)) (hl : zs.length ≤ 1000) (hb : b < base) : VR w b v zs :=
  ⟨own_psl h hl, fun he => by have := (h.lt b he).1; omega⟩
theorem VR.nil (w : World) (b : Nat) : VR w b (.slice none 0 0) [] := ⟨⟨by simp, .inl ⟨rfl, none, 0, rfl⟩⟩, by simp [Value.ownBlock]⟩
theorem vltNew (w : World) : Calls Tryz.prog 31 #[] w fun e w' => e = .returned (.pointer (some ⟨w.heap.size, 0, none⟩)) ∧ VAt w' w.heap.size [] [] ∧ Below w.heap.size w w' := by
  go_enter Tryz.func31, Tryz.ntmps31
  go_wp2
  go_ret
  exact ⟨rfl, ⟨_, _, ObjAt.new _ _ _, VR.nil _ _, VR.nil _ _⟩, by go_grown⟩
theorem vltSpend_bad {n u now c : Int} {zs ks : List (Int × Int)} (hc : spMoreE zs n u now = c) (h0 : c ≠ 0) (b : Nat) (w : World) (h : VAt w b zs ks) :
    Calls Tryz.prog 129 #[.pointer (some ⟨b, 0, none⟩), .int .i64 n, .int .i64 u, .int .i64 now] w fun e w' => e = .returned (errV c) ∧ VAt w' b zs ks ∧ Kept [b] w w' := by
  obtain ⟨v1, v2, ho, h1, h2⟩ := h
  have C := hide (spMore_bad hc h0 v1 w h1.1)
  have q0 := ho.cell (i := 0) rfl
  have HV : Hid (VAt w b zs ks) := hide ⟨v1, v2, ho, h1, h2⟩
  have t0 : (c == 0) = false := beq_eq_false_iff_ne.2 h0
  clear ho h1 h2 hc h0
  go_enter Tryz.func129, Tryz.ntmps129
  go_wp2_with fail
  refine C.out.mono ?_
  rintro e w1 ⟨rfl, hb1⟩
  go_wp2
  go_ret
  exact ⟨rfl, HV.out.below hb1, Kept.of_below hb1 _⟩
theorem vltSpend_ok {n u now : Int} {zs ks : List (Int × Int)} (hc : spMoreE zs n u now = 0) (hl : zs.length ≤ 999) (b : Nat) (w : World) (h : VAt w b zs ks) :
    Calls Tryz.prog 129 #[.pointer (some ⟨b, 0, none⟩), .int .i64 n, .int .i64 u, .int .i64 now] w fun e w' => e = .returned .nilIface ∧ VAt w' b (spDrop zs now ++ [(n, u)]) ks ∧ Kept [b] w w' := by
  obtain ⟨v1, v2, ho, h1, h2⟩ := h
  have C := hide (spMore_ok hc v1 w h1.1)
  have q0 := ho.cell (i := 0) rfl
  have hbl := ho.lt
  have HO := hide ho
  have H2 := hide h2
  have hdl : (spDrop zs now ++ [(n, u)]).length ≤ 1000 := by have := spDrop_le zs now; simp; omega
  have HDL := hide hdl
  clear ho h1 h2 hc hdl
  go_enter Tryz.func129, Tryz.ntmps129
  go_wp2_with fail
  refine C.out.mono ?_
  rintro e w1 ⟨v', rfl, hown, hb1⟩
  obtain ⟨a', c', hv'⟩ := own_sl hown
  have o1 := HO.out.below hb1
  have f0 := o1.free 0
  have f1 := o1.free 1
  have p0 := o1.cell (i := 0) rfl
  have hk1 : Kept [b] w (w1.setCell ⟨b, 0, none⟩ v') := (Kept.of_below hb1 _).setCell (.inl (by simp)) _
  have hvr : VR w1 b v' (spDrop zs now ++ [(n, u)]) := own_vr hown HDL.out (by omega)
  have hk2 : Kept [b] w1 (w1.setCell ⟨b, 0, none⟩ v') := (Kept.refl _ _).setCell (.inl (by simp)) _
  have hfin : Hid (VAt (w1.setCell ⟨b, 0, none⟩ v') b (spDrop zs now ++ [(n, u)]) ks ∧ Kept [b] w (w1.setCell ⟨b, 0, none⟩ v')) := hide ⟨⟨v', v2, o1.set 0 v', hvr.kept hk2, H2.out.kept hk1⟩, hk1⟩
  clear o1 hown hb1 hk1 hvr hk2
  subst hv'
  go_wp2
  go_ret
  exact ⟨rfl, by have q := hfin.out; rw [List.length_append] at q; exact q⟩
theorem vltSync {zs ks : List (Int × Int)} (b : Nat) (w : World) (h : VAt w b zs ks) :
    Calls Tryz.prog 130 #[.pointer (some ⟨b, 0, none⟩)] w fun e w' => e = .returned (.tuple #[]) ∧ VAt w' b zs zs ∧ Kept [b] w w' := by
  obtain ⟨v1, v2, ho, h1, h2⟩ := h
  have C := hide (spClone v1 zs w h1.1)
  have q0 := ho.cell (i := 0) rfl
  have hbl := ho.lt
  have hl := h1.1.1
  have HO := hide ho
  have H1 := hide h1
  clear ho h1 h2
  go_enter Tryz.func130, Tryz.ntmps130
  go_wp2_with fail
  refine C.out.mono ?_
  rintro e w1 ⟨v', rfl, hown, hb1⟩
  obtain ⟨a', c', hv'⟩ := own_sl hown
  have o1 := HO.out.below hb1
  have f1 := o1.free 1
  have p1 := o1.cell (i := 1) rfl
  have hk1 : Kept [b] w (w1.setCell ⟨b, 1, none⟩ v') := (Kept.of_below hb1 _).setCell (.inl (by simp)) _
  have hvr : VR w1 b v' zs := own_vr hown hl hbl
  have hk2 : Kept [b] w1 (w1.setCell ⟨b, 1, none⟩ v') := (Kept.refl _ _).setCell (.inl (by simp)) _
  have hfin : Hid (VAt (w1.setCell ⟨b, 1, none⟩ v') b zs zs ∧ Kept [b] w (w1.setCell ⟨b, 1, none⟩ v')) := hide ⟨⟨v1, v', o1.set 1 v', H1.out.kept hk1, hvr.kept hk2⟩, hk1⟩
  clear o1 hown hb1 hk1 hvr hk2
  subst hv'
  go_wp2
  go_returns
  exact ⟨rfl, hfin.out⟩
theorem vltCrash {zs ks : List (Int × Int)} (b : Nat) (w : World) (h : VAt w b zs ks) :
    Calls Tryz.prog 93 #[.pointer (some ⟨b, 0, none⟩)] w fun e w' => e = .returned (.tuple #[]) ∧ VAt w' b ks ks ∧ Kept [b] w w' := by
  obtain ⟨v1, v2, ho, h1, h2⟩ := h
  have C := hide (spClone v2 ks w h2.1)
  have q1 := ho.cell (i := 1) rfl
  have hbl := ho.lt
  have hl := h2.1.1
  have HO := hide ho
  have H2 := hide h2
  clear ho h1 h2
  go_enter Tryz.func93, Tryz.ntmps93
  go_wp2_with fail
  refine C.out.mono ?_
  rintro e w1 ⟨v', rfl, hown, hb1⟩
  obtain ⟨a', c', hv'⟩ := own_sl hown
  have o1 := HO.out.below hb1
  have f0 := o1.free 0
  have p0 := o1.cell (i := 0) rfl
  have hk1 : Kept [b] w (w1.setCell ⟨b, 0, none⟩ v') := (Kept.of_below hb1 _).setCell (.inl (by simp)) _
  have hvr : VR w1 b v' ks := own_vr hown hl hbl
  have hk2 : Kept [b] w1 (w1.setCell ⟨b, 0, none⟩ v') := (Kept.refl _ _).setCell (.inl (by simp)) _
  have hfin : Hid (VAt (w1.setCell ⟨b, 0, none⟩ v') b ks ks ∧ Kept [b] w (w1.setCell ⟨b, 0, none⟩ v')) := hide ⟨⟨v', v2, o1.set 0 v', hvr.kept hk2, H2.out.kept hk1⟩, hk1⟩
  clear o1 hown hb1 hk1 hvr hk2
  subst hv'
  go_wp2
  go_returns
  exact ⟨rfl, hfin.out⟩
/-- what is told of a number -/
def vltN (zs : List (Int × Int)) (n : Int) : Bool × Int := if inB n then (zs.any (fun x => x.1 == n), 0) else (false, 1)
end Go.Proofs.YtlnghfmcofmkjaaGreatDoor

namespace Go.Proofs.YtlnghfmcofmkjaaGreatDoor
open Go.RowKit

/-- the server at b: its ring, life, queue, issuer, vault, how many conns; what waits -/
structure SQ (w : World) (b : Nat) (e k o li : Int) (q bi bv : Nat) (cn : Int) (v : Value) (zs : List (Int × Int)) : Prop where
  obj : ObjAt w b 90 [.int .i64 e, .int .i64 k, .int .i64 o, .int .i64 li, .pointer (some ⟨q, 0, none⟩), .pointer (some ⟨bi, 0, none⟩), .pointer (some ⟨bv, 0, none⟩), .int .i64 cn]
  que : QAt 110 w q v zs
  ne : b ≠ q
  row : v.ownBlock ≠ some b
theorem SQ.below {w w' : World} {b : Nat} {e k o li : Int} {q bi bv : Nat} {cn : Int} {v : Value} {zs : List (Int × Int)} (h : SQ w b e k o li q bi bv cn v zs) (hb : Below w.heap.size w w') : SQ w' b e k o li q bi bv cn v zs :=
  { h with obj := h.obj.below hb, que := h.que.below hb }
theorem sWaiting {b : Nat} {e k o li : Int} {q bi bv : Nat} {cn : Int} {v : Value} {zs : List (Int × Int)} (w : World) (h : SQ w b e k o li q bi bv cn v zs) :
    Calls Tryz.prog 69 #[.pointer (some ⟨b, 0, none⟩)] w fun r w' => r = .returned (.int .i64 zs.length) ∧ Below w.heap.size w w' := by
  have c4 := h.obj.cell (i := 4) rfl
  have AL := hide (qAll q v zs w h.que)
  clear h
  go_enter Tryz.func69, Tryz.ntmps69
  go_wp2_with fail
  refine AL.out.mono ?_
  rintro r w1 ⟨va, rfl, hp, hb⟩
  obtain ⟨a1, c1, rfl⟩ : ∃ a c, va = .slice a zs.length c := by
    rcases hp.2 with ⟨rfl, a, c, rfl⟩ | ⟨b, off, c, rfl, _⟩
    · exact ⟨a, c, rfl⟩
    · exact ⟨_, c, rfl⟩
  clear hp AL
  go_wp2
  go_ret
  exact ⟨rfl, hb⟩
theorem sPull_none {b : Nat} {e k o li : Int} {q bi bv : Nat} {cn : Int} {v : Value} (w : World) (h : SQ w b e k o li q bi bv cn v []) :
    Calls Tryz.prog 90 #[.pointer (some ⟨b, 0, none⟩)] w fun r w' => r = .returned (.tuple #[.agg #[.int .i64 0, .int .i64 0], .iface 82 (.int .i64 5)]) ∧ Below w.heap.size w w' := by
  have c4 := h.obj.cell (i := 4) rfl
  have hbl := h.obj.lt
  have PU := hide (fun W (hW : Below w.heap.size w W) => qPull_none q v W (h.que.below hW))
  clear h
  go_enter Tryz.func90, Tryz.ntmps90
  go_wp2_with fail
  refine (PU.out _ ((Below.refl _ _).alloc (Nat.le_refl _) _)).mono ?_
  rintro r w1 ⟨rfl, hb1⟩
  obtain ⟨c5, d5⟩ := bcell hb1
  have hs := hb1.size
  have HB := hide (bel_a1 hb1)
  clear PU hb1
  simp at hs
  go_wp2
  exact bodyPost_ret (v := .tuple #[.agg #[.int .i64 0, .int .i64 0], .iface 82 (.int .i64 5)]) (by simp [results, Tryz.results90, go_sem, *]) rfl ⟨rfl, by first | exact HB.out | exact HB.out.setCell (Nat.le_refl _) _ | exact (HB.out.setCell (Nat.le_refl _) _).setCell (Nat.le_refl _) _⟩
theorem sPull_one {b : Nat} {e k o li : Int} {q bi bv : Nat} {cn : Int} {v : Value} {x : Int × Int} {l : List (Int × Int)} (w : World) (h : SQ w b e k o li q bi bv cn v (x :: l)) :
    Calls Tryz.prog 90 #[.pointer (some ⟨b, 0, none⟩)] w fun r w' => r = .returned (.tuple #[.agg #[.int .i64 x.1, .int .i64 x.2], .nilIface]) ∧ ∃ v', SQ w' b e k o li q bi bv cn v' l ∧ rowOf w v v' ∧ Kept (qS q v) w w' := by
  have c4 := h.obj.cell (i := 4) rfl
  have hbl := h.obj.lt
  have hql := h.que.1.lt
  have PU := hide (fun W (hW : Below w.heap.size w W) => qPull_one q v W (h.que.below hW))
  have HS := hide h
  clear h
  go_enter Tryz.func90, Tryz.ntmps90
  go_wp2_with fail
  refine (PU.out _ ((Below.refl _ _).alloc (Nat.le_refl _) _)).mono ?_
  rintro r w1 ⟨rfl, v1, hq1, hr1, hk1⟩
  have hA : Below w.heap.size w (w.alloc (.cells #[.int .i64 0, .int .i64 0] 74)) := (Below.refl _ _).alloc (Nat.le_refl _) _
  have hvl : ∀ g, v.ownBlock = some g → g < w.heap.size := fun g hg => HS.out.que.2.1.lt g hg
  have hoX := hk1.obj (ObjAt.new w 74 [.int .i64 0, .int .i64 0]) (fun hm => by
    rcases mem_qS.1 hm with e | e
    · omega
    · have := hvl _ e; omega)
  have hoS : ObjAt w1 b _ _ := hk1.obj (HS.out.obj.below hA) (fun hm => by
    rcases mem_qS.1 hm with e | e
    · exact HS.out.ne e
    · exact HS.out.row e)
  have hK : Kept (qS q v) w w1 := (Kept.of_below hA _).trans hk1
  have hr : rowOf w v v1 := hr1.imp id (fun ⟨g, h1, h2⟩ => ⟨g, h1, by simp at h2; omega⟩)
  have hn1 : v1.ownBlock ≠ some b := by
    rcases hr with e | ⟨g, e, hg⟩
    · rw [e]; exact HS.out.row
    · rw [e]; intro e2; have := Option.some.inj e2; omega
  have hn2 : v1.ownBlock ≠ some w.heap.size := by
    rcases hr1 with e | ⟨g, e, hg⟩
    · rw [e]; intro e2; have := hvl _ e2; omega
    · rw [e]; intro e2; have := Option.some.inj e2; simp at hg; omega
  have x0 := hoX.cell (i := 0) rfl
  have x1 := hoX.cell (i := 1) rfl
  have y0 := hoX.free 0
  have y1 := hoX.free 1
  have HF : Hid (∀ u1 u2 : Value, SQ ((w1.setCell ⟨w.heap.size, 0, none⟩ u1).setCell ⟨w.heap.size, 1, none⟩ u2) b e k o li q bi bv cn v1 l ∧ Kept (qS q v) w ((w1.setCell ⟨w.heap.size, 0, none⟩ u1).setCell ⟨w.heap.size, 1, none⟩ u2)) := by
    intro u1 u2
    refine ⟨{ obj := ?_, que := ⟨?_, ?_, hq1.2.2⟩, ne := HS.out.ne, row := hn1 }, ?_⟩
    · exact (hoS.setOther (a := ⟨w.heap.size, 0, none⟩) (by show b ≠ w.heap.size; omega) u1).setOther (a := ⟨w.heap.size, 1, none⟩) (by show b ≠ w.heap.size; omega) u2
    · exact (hq1.1.setOther (a := ⟨w.heap.size, 0, none⟩) (by show q ≠ w.heap.size; omega) u1).setOther (a := ⟨w.heap.size, 1, none⟩) (by show q ≠ w.heap.size; omega) u2
    · exact (hq1.2.1.setOther (a := ⟨w.heap.size, 0, none⟩) (fun g hg e => hn2 (by rw [hg]; exact congrArg some e)) u1).setOther (a := ⟨w.heap.size, 1, none⟩) (fun g hg e => hn2 (by rw [hg]; exact congrArg some e)) u2
    · exact (hK.setCell (p := ⟨w.heap.size, 0, none⟩) (Or.inr (Nat.le_refl _)) u1).setCell (p := ⟨w.heap.size, 1, none⟩) (Or.inr (Nat.le_refl _)) u2
  have HR := hide hr
  clear hoX hoS hK hr hn1 hn2 hq1 hr1 hk1 PU hvl hA HS
  go_wp2
  exact bodyPost_ret (v := .tuple #[.agg #[.int .i64 x.1, .int .i64 x.2], .nilIface]) (by simp [results, Tryz.results90, go_sem, *]) rfl ⟨rfl, v1, (HF.out _ _).1, HR.out, (HF.out _ _).2⟩
theorem sNew_bad1 {seed li : Int} (h : inB seed = false) (w : World) :
    Calls Tryz.prog 11 #[.int .i64 seed, .int .i64 li] w fun r w' => r = .returned (.tuple #[.pointer none, .iface 82 (.int .i64 1)]) ∧ Below w.heap.size w w' := by
  have RN := hide (ringNew_bad h w)
  go_enter Tryz.func11, Tryz.ntmps11
  go_wp2_with fail
  refine RN.out.mono ?_
  rintro r w1 ⟨rfl, hb1⟩
  have hs1 := hb1.size
  go_wp2
  go_ret2
  exact ⟨rfl, by go_grown⟩
theorem sNew_bad2 {seed li : Int} (h : inB seed = true) (ht : tmB li = false) (w : World) :
    Calls Tryz.prog 11 #[.int .i64 seed, .int .i64 li] w fun r w' => r = .returned (.tuple #[.pointer none, .iface 82 (.int .i64 1)]) ∧ Below w.heap.size w w' := by
  have RN := hide (ringNew_ok h w)
  have TM := hide (fun W => tokenTime_eq ht W)
  clear h ht
  go_enter Tryz.func11, Tryz.ntmps11
  go_wp2_with fail
  refine RN.out.mono ?_
  rintro r w1 ⟨rfl, hb1⟩
  have hs1 := hb1.size
  go_wp2_with fail
  refine (TM.out _).mono ?_
  rintro r w500 ⟨rfl, rfl⟩
  go_wp2
  go_ret2
  exact ⟨rfl, by go_grown⟩
theorem qNewE (W : World) : Calls Tryz.prog 29 #[] W fun e w' => ∃ q, e = .returned (.pointer (some ⟨q, 0, none⟩)) ∧ W.heap.size ≤ q ∧ QAt 110 w' q (.slice none 0 0) [] ∧ Below W.heap.size W w' :=
  (qNew W).mono fun _ _ ⟨h1, h2, h3⟩ => ⟨_, h1, Nat.le_refl _, h2, h3⟩
theorem issueNewE (W : World) : Calls Tryz.prog 30 #[] W fun e w' => ∃ bi bb, e = .returned (.pointer (some ⟨bi, 0, none⟩)) ∧ W.heap.size ≤ bb ∧ bb < bi ∧ IssAt w' bi bb 0 0 0 ∧ Below W.heap.size W w' :=
  (issueNew W).mono fun _ _ ⟨h1, h2, h3⟩ => ⟨_, _, h1, Nat.le_refl _, Nat.lt_succ_self _, h2, h3⟩
theorem vltNewE (W : World) : Calls Tryz.prog 31 #[] W fun e w' => ∃ bv, e = .returned (.pointer (some ⟨bv, 0, none⟩)) ∧ W.heap.size ≤ bv ∧ VAt w' bv [] [] ∧ Below W.heap.size W w' :=
  (vltNew W).mono fun _ _ ⟨h1, h2, h3⟩ => ⟨_, h1, Nat.le_refl _, h2, h3⟩
set_option maxHeartbeats 4000000 in
theorem sNew_ok {seed li : Int} (h : inB seed = true) (ht : tmB li = true) (w : World) :
    Calls Tryz.prog 11 #[.int .i64 seed, .int .i64 li] w fun r w' => ∃ b q bi bb bv, r = .returned (.tuple #[.pointer (some ⟨b, 0, none⟩), .nilIface]) ∧ SQ w' b 0 (tagOf seed [0]) 0 li q bi bv 0 (.slice none 0 0) [] ∧
      IssAt w' bi bb 0 0 0 ∧ VAt w' bv [] [] ∧ (w.heap.size ≤ q ∧ q < bb ∧ bb < bi ∧ bi < bv ∧ bv < b) ∧ Below w.heap.size w w' := by
  have RN := hide (ringNew_ok h w)
  have TM := hide (fun W => tokenTime_eq ht W)
  generalize tagOf seed [0] = K at RN ⊢
  clear h ht
  go_enter Tryz.func11, Tryz.ntmps11
  go_wp2_with fail
  refine RN.out.mono ?_
  rintro r w1 ⟨rfl, hb1⟩
  have hs1 := hb1.size
  go_wp2_with fail
  refine (TM.out _).mono ?_
  rintro r w500 ⟨rfl, rfl⟩
  have HX : Hid (∀ w' : World, Below (w1.heap.size + 1) (w1.alloc (.cells #[.int .i64 0, .int .i64 K, .int .i64 0] 52)) w' → w'.cell? ⟨w1.heap.size, 0, none⟩ = some (.int .i64 0) ∧ w'.cell? ⟨w1.heap.size, 1, none⟩ = some (.int .i64 K) ∧ w'.cell? ⟨w1.heap.size, 2, none⟩ = some (.int .i64 0)) := by
    intro w' hB
    have o : ObjAt w' w1.heap.size 52 [.int .i64 0, .int .i64 K, .int .i64 0] := (hB.block w1.heap.size (by omega)).trans (ObjAt.new w1 52 [.int .i64 0, .int .i64 K, .int .i64 0])
    exact ⟨o.cell (i := 0) rfl, o.cell (i := 1) rfl, o.cell (i := 2) rfl⟩
  have hrr : Below (w1.heap.size + 1) (w1.alloc (.cells #[.int .i64 0, .int .i64 K, .int .i64 0] 52)) (w1.alloc (.cells #[.int .i64 0, .int .i64 K, .int .i64 0] 52)) := Below.refl _ _
  have hB1 : Below w.heap.size w (w1.alloc (.cells #[.int .i64 0, .int .i64 K, .int .i64 0] 52)) := hb1.alloc hs1 _
  clear RN TM
  go_wp2_with fail
  go_region_held3 (fun w' => w'.cell? ⟨w1.heap.size, 0, none⟩ = some (.int .i64 0) ∧ w'.cell? ⟨w1.heap.size, 1, none⟩ = some (.int .i64 K) ∧ w'.cell? ⟨w1.heap.size, 2, none⟩ = some (.int .i64 0)) (first | exact HX.out _ (by assumption) | (refine HX.out _ ?_; go_grown) | go_keep)
    (first
      | (go_at_call 29; refine (qNewE _).mono ?_; rintro e5 w2 ⟨q, rfl, hq2, hqa2, hb2⟩; have hx2 : Below (w1.heap.size + 1) (w1.alloc (.cells #[.int .i64 0, .int .i64 K, .int .i64 0] 52)) w2 := Below.trans (by go_grown) (Below.mono hb2 (by first | omega | (simp; done) | (simp; omega))); have hs2 := hx2.size; (try simp at hs2 hq2); obtain ⟨c2, d2⟩ := bcell hb2)
      | (go_at_call 30; refine (issueNewE _).mono ?_; rintro e6 w3 ⟨bi, bb, rfl, hq3, hq3b, hqa3, hb3⟩; have hx3 : Below (w1.heap.size + 1) (w1.alloc (.cells #[.int .i64 0, .int .i64 K, .int .i64 0] 52)) w3 := Below.trans (Below.trans hx2 (Below.mono (by go_grown : Below w2.heap.size w2 _) hs2)) (Below.mono hb3 (by first | omega | (simp; done) | (simp; omega))); have hy3 : Below w2.heap.size w2 w3 := Below.trans (by go_grown) (Below.mono hb3 (by first | omega | (simp; done) | (simp; omega))); have hs3 := hx3.size; have hs3b := hy3.size; (try simp at hs3 hq3); obtain ⟨c3, d3⟩ := bcell hb3)
      | (go_at_call 31; refine (vltNewE _).mono ?_; rintro e7 w4 ⟨bv, rfl, hq4, hqa4, hb4⟩; have hy4 : Below w3.heap.size w3 w4 := Below.trans (by go_grown) (Below.mono hb4 (by first | omega | (simp; done) | (simp; omega))); have hx4 : Below (w1.heap.size + 1) (w1.alloc (.cells #[.int .i64 0, .int .i64 K, .int .i64 0] 52)) w4 := hx3.trans (hy4.mono hs3); have hs4 := hx4.size; have hs4b := hy4.size; (try simp at hs4 hq4); obtain ⟨c4, d4⟩ := bcell hb4))
  have z2 := hqa2.1.lt
  have z3 := hqa3.1.lt
  have z4 := hqa4.lt
  have HF : Hid (∀ W : World, Below w4.heap.size w4 W → QAt 110 W q (.slice none 0 0) [] ∧ IssAt W bi bb 0 0 0 ∧ VAt W bv [] [] ∧ Below w.heap.size w W) := hide (fun W hW =>
    ⟨((hqa2.below hy3).below hy4).below hW, (hqa3.below hy4).below hW, hqa4.below hW, hB1.trans ((hx4.mono (by omega)).trans (hW.mono (by omega)))⟩)
  clear hb2 hb3 hb4 c2 c3 c4 d2 d3 d4 hx2 hx3 hx4 hy3 hy4 hqa2 hqa3 hqa4 hB1 hrr HX hb1
  go_wp2
  go_ret2
  have hA : ∀ o : Obj, Below w4.heap.size w4 (w4.alloc o) := fun o => (Below.refl _ _).alloc (Nat.le_refl _) _
  obtain ⟨y1, y2, y3, y4⟩ := HF.out _ (hA (.cells #[.int .i64 0, .int .i64 K, .int .i64 0, .int .i64 li, .pointer (some ⟨q, 0, none⟩), .pointer (some ⟨bi, 0, none⟩), .pointer (some ⟨bv, 0, none⟩), .int .i64 0] 90))
  exact ⟨_, q, bi, bb, bv, rfl, { obj := ObjAt.new _ _ _, que := y1, ne := by omega, row := by simp [Value.ownBlock] }, y2, y3, by omega, y4⟩
end Go.Proofs.YtlnghfmcofmkjaaGreatDoor
