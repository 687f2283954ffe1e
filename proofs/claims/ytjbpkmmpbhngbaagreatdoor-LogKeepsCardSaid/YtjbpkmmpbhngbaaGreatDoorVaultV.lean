/- vault, its two rows written out: by contracts that tell that a new row is new. -/
import Derived.Test.YtjbpkmmpbhngbaaGreatDoorVault
namespace Go.Proofs.YtjbpkmmpbhngbaaGreatDoor
open Go.RowKit

/-- the vault at b, its rows written out -/
def VA (w : World) (b : Nat) (v1 v2 : Value) (zs ks : List (Int × Int)) : Prop := ObjAt w b 166 [v1, v2] ∧ VR w b v1 zs ∧ VR w b v2 ks
/-- the row of v is none, or is new -/
def vNew (w w' : World) (v : Value) : Prop := v.ownBlock = none ∨ ∃ g, v.ownBlock = some g ∧ w.heap.size ≤ g ∧ g < w'.heap.size
theorem VA.below {w w' : World} {b : Nat} {v1 v2 : Value} {zs ks : List (Int × Int)} (h : VA w b v1 v2 zs ks) (hb : Below w.heap.size w w') : VA w' b v1 v2 zs ks := ⟨h.1.below hb, h.2.1.below hb, h.2.2.below hb⟩
theorem own_vnew {w : World} {base size n : Nat} {e : TypeId} {v : Value} {xs : List Value} {W : World} (h : w.ownsRow base e size v n xs) (hb : W.heap.size ≤ base) (i : Nat) (u : Value) (b : Nat) : vNew W (w.setCell ⟨b, i, none⟩ u) v := by
  rcases h.2 with ⟨rfl, _⟩ | ⟨g, cap, cur, rfl, h3, h4, _⟩
  · exact .inl rfl
  · exact .inr ⟨g, rfl, Nat.le_trans hb h3, by simpa using lt_of_block h4⟩
theorem psl_lt {w : World} {v : Value} {zs : List (Int × Int)} (h : PSl w v zs) (hz : zs ≠ []) : ∀ g, v.ownBlock = some g → g < w.heap.size := by
  rcases h.2 with ⟨h0, _⟩ | ⟨b, off, c, rfl, _, hb, _⟩
  · exact absurd h0 hz
  · intro g hg
    simp [Value.ownBlock] at hg
    omega
theorem vaNew (w : World) : Calls Tryz.prog 62 #[] w fun e w' => ∃ bv, e = .returned (.pointer (some ⟨bv, 0, none⟩)) ∧ w.heap.size ≤ bv ∧ VA w' bv (.slice none 0 0) (.slice none 0 0) [] [] ∧ Below w.heap.size w w' := by
  go_enter Tryz.func62, Tryz.ntmps62
  go_wp2
  go_ret
  exact ⟨_, rfl, Nat.le_refl _, ⟨ObjAt.new _ _ _, VR.nil _ _, VR.nil _ _⟩, by go_grown⟩
theorem vaSpend_bad {n u now c : Int} {zs ks : List (Int × Int)} {v1 v2 : Value} (hc : spMoreE zs n u now = c) (h0 : c ≠ 0) (b : Nat) (w : World) (h : VA w b v1 v2 zs ks) :
    Calls Tryz.prog 178 #[.pointer (some ⟨b, 0, none⟩), .int .i64 n, .int .i64 u, .int .i64 now] w fun e w' => e = .returned (errV c) ∧ Below w.heap.size w w' := by
  obtain ⟨ho, h1, h2⟩ := h
  have C := hide (spMore_bad hc h0 v1 w h1.1)
  have q0 := ho.cell (i := 0) rfl
  have t0 : (c == 0) = false := beq_eq_false_iff_ne.2 h0
  clear ho h1 h2 hc h0
  go_enter Tryz.func178, Tryz.ntmps178
  go_wp2_with fail
  refine C.out.mono ?_
  rintro e w1 ⟨rfl, hb1⟩
  go_wp2
  go_ret
  exact ⟨rfl, hb1⟩
theorem vaSpend_ok {n u now : Int} {zs ns ks : List (Int × Int)} {v1 v2 : Value} (hns : spDrop zs now ++ [(n, u)] = ns) (hc : spMoreE zs n u now = 0) (hl : zs.length ≤ 999) (b : Nat) (w : World) (h : VA w b v1 v2 zs ks) :
    Calls Tryz.prog 178 #[.pointer (some ⟨b, 0, none⟩), .int .i64 n, .int .i64 u, .int .i64 now] w fun e w' => e = .returned .nilIface ∧ ∃ v', VA w' b v' v2 ns ks ∧ vNew w w' v' ∧ Kept [b] w w' := by
  obtain ⟨ho, h1, h2⟩ := h
  have C := hide (spMore_ok hc v1 w h1.1)
  have q0 := ho.cell (i := 0) rfl
  have hbl := ho.lt
  have HO := hide ho
  have H2 := hide h2
  have hdl : (spDrop zs now ++ [(n, u)]).length ≤ 1000 := by have := spDrop_le zs now; simp; omega
  rw [hns] at C hdl
  have HDL := hide hdl
  clear ho h1 h2 hc hdl hns
  go_enter Tryz.func178, Tryz.ntmps178
  go_wp2_with fail
  refine C.out.mono ?_
  rintro e w1 ⟨v', rfl, hown, hb1⟩
  obtain ⟨a', c', hv'⟩ := own_sl hown
  have o1 := HO.out.below hb1
  have f0 := o1.free 0
  have f1 := o1.free 1
  have p0 := o1.cell (i := 0) rfl
  have hk1 : Kept [b] w (w1.setCell ⟨b, 0, none⟩ v') := (Kept.of_below hb1 _).setCell (.inl (by simp)) _
  have hvr : VR w1 b v' ns := own_vr hown HDL.out (by omega)
  have hk2 : Kept [b] w1 (w1.setCell ⟨b, 0, none⟩ v') := (Kept.refl _ _).setCell (.inl (by simp)) _
  have hfin : Hid (VA (w1.setCell ⟨b, 0, none⟩ v') b v' v2 ns ks ∧ vNew w (w1.setCell ⟨b, 0, none⟩ v') v' ∧ Kept [b] w (w1.setCell ⟨b, 0, none⟩ v')) := hide ⟨⟨o1.set 0 v', hvr.kept hk2, H2.out.kept hk1⟩, own_vnew hown (Nat.le_succ _) _ _ _, hk1⟩
  clear o1 hown hb1 hk1 hvr hk2
  subst hv'
  go_wp2
  go_ret
  exact ⟨rfl, _, hfin.out⟩
theorem vaSync {zs ks : List (Int × Int)} {v1 v2 : Value} (b : Nat) (w : World) (h : VA w b v1 v2 zs ks) :
    Calls Tryz.prog 179 #[.pointer (some ⟨b, 0, none⟩)] w fun e w' => e = .returned (.tuple #[]) ∧ ∃ v', VA w' b v1 v' zs zs ∧ vNew w w' v' ∧ Kept [b] w w' := by
  obtain ⟨ho, h1, h2⟩ := h
  have C := hide (spClone v1 zs w h1.1)
  have q0 := ho.cell (i := 0) rfl
  have hbl := ho.lt
  have hl := h1.1.1
  have HO := hide ho
  have H1 := hide h1
  clear ho h1 h2
  go_enter Tryz.func179, Tryz.ntmps179
  go_wp2_with fail
  refine C.out.mono ?_
  rintro e w1 ⟨v', rfl, hown, hb1⟩
  obtain ⟨a', c', hv'⟩ := own_sl hown
  have o1 := HO.out.below hb1
  have f1 := o1.free 1
  have p1 := o1.cell (i := 1) rfl
  have hk1 : Kept [b] w (w1.setCell ⟨b, 1, none⟩ v') := (Kept.of_below hb1 _).setCell (.inl (by simp)) _
  have hvr : VR w1 b v' zs := own_vr hown hl hbl
  have hk2 : Kept [b] w1 (w1.setCell ⟨b, 1, none⟩ v') := (Kept.refl _ _).setCell (.inl (by simp)) _
  have hfin : Hid (VA (w1.setCell ⟨b, 1, none⟩ v') b v1 v' zs zs ∧ vNew w (w1.setCell ⟨b, 1, none⟩ v') v' ∧ Kept [b] w (w1.setCell ⟨b, 1, none⟩ v')) := hide ⟨⟨o1.set 1 v', H1.out.kept hk1, hvr.kept hk2⟩, own_vnew hown (Nat.le_refl _) _ _ _, hk1⟩
  clear o1 hown hb1 hk1 hvr hk2
  subst hv'
  go_wp2
  go_returns
  exact ⟨rfl, _, hfin.out⟩
theorem vaCrash {zs ks : List (Int × Int)} {v1 v2 : Value} (b : Nat) (w : World) (h : VA w b v1 v2 zs ks) :
    Calls Tryz.prog 143 #[.pointer (some ⟨b, 0, none⟩)] w fun e w' => e = .returned (.tuple #[]) ∧ ∃ v', VA w' b v' v2 ks ks ∧ vNew w w' v' ∧ Kept [b] w w' := by
  obtain ⟨ho, h1, h2⟩ := h
  have C := hide (spClone v2 ks w h2.1)
  have q1 := ho.cell (i := 1) rfl
  have hbl := ho.lt
  have hl := h2.1.1
  have HO := hide ho
  have H2 := hide h2
  clear ho h1 h2
  go_enter Tryz.func143, Tryz.ntmps143
  go_wp2_with fail
  refine C.out.mono ?_
  rintro e w1 ⟨v', rfl, hown, hb1⟩
  obtain ⟨a', c', hv'⟩ := own_sl hown
  have o1 := HO.out.below hb1
  have f0 := o1.free 0
  have p0 := o1.cell (i := 0) rfl
  have hk1 : Kept [b] w (w1.setCell ⟨b, 0, none⟩ v') := (Kept.of_below hb1 _).setCell (.inl (by simp)) _
  have hvr : VR w1 b v' ks := own_vr hown hl hbl
  have hk2 : Kept [b] w1 (w1.setCell ⟨b, 0, none⟩ v') := (Kept.refl _ _).setCell (.inl (by simp)) _
  have hfin : Hid (VA (w1.setCell ⟨b, 0, none⟩ v') b v' v2 ks ks ∧ vNew w (w1.setCell ⟨b, 0, none⟩ v') v' ∧ Kept [b] w (w1.setCell ⟨b, 0, none⟩ v')) := hide ⟨⟨o1.set 0 v', hvr.kept hk2, H2.out.kept hk1⟩, own_vnew hown (Nat.le_refl _) _ _ _, hk1⟩
  clear o1 hown hb1 hk1 hvr hk2
  subst hv'
  go_wp2
  go_returns
  exact ⟨rfl, _, hfin.out⟩
end Go.Proofs.YtjbpkmmpbhngbaaGreatDoor
