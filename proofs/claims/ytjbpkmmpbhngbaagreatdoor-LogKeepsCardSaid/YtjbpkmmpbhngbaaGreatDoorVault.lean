/- vault: New, Spend, Sync, Crash, Has, Sure by contracts. -/
import Derived.Test.YtjbpkmmpbhngbaaGreatDoorSpMore
namespace Go.Proofs.YtjbpkmmpbhngbaaGreatDoor
open Go.RowKit

/-- A slice of pairs that does not lie in block b. -/
def VR (w : World) (b : Nat) (v : Value) (zs : List (Int × Int)) : Prop := PSl w v zs ∧ v.ownBlock ≠ some b
/-- Block b is a Vault of these. -/
def VAt (w : World) (b : Nat) (zs ks : List (Int × Int)) : Prop := ∃ v1 v2, ObjAt w b 166 [v1, v2] ∧ VR w b v1 zs ∧ VR w b v2 ks
theorem PSl.kept {S : List Nat} {w w' : World} {v : Value} {zs : List (Int × Int)} (h : PSl w v zs) (hk : Kept S w w') (hn : ∀ x, x ∈ S → v.ownBlock ≠ some x) : PSl w' v zs := by
  refine ⟨h.1, ?_⟩
  rcases h.2 with h | ⟨b, off, c, rfl, h2, h3, h4⟩
  · exact .inl h
  · have hb : b ∉ S := fun hx => hn b hx rfl
    exact .inr ⟨b, off, c, rfl, h2, Nat.lt_of_lt_of_le h3 hk.size, fun j hj => ⟨(hk.cell (p := ⟨b, off + j * 2, none⟩) h3 hb).trans (h4 j hj).1, (hk.cell (p := ⟨b, off + j * 2 + 1, none⟩) h3 hb).trans (h4 j hj).2⟩⟩
theorem VR.kept {w w' : World} {b : Nat} {v : Value} {zs : List (Int × Int)} (h : VR w b v zs) (hk : Kept [b] w w') : VR w' b v zs :=
  ⟨h.1.kept hk (fun x hx => by simp at hx; subst hx; exact h.2), h.2⟩
theorem VR.below {w w' : World} {b : Nat} {v : Value} {zs : List (Int × Int)} (h : VR w b v zs) (hB : Below w.heap.size w w') : VR w' b v zs := ⟨h.1.below hB, h.2⟩
theorem VAt.below {w w' : World} {b : Nat} {zs ks : List (Int × Int)} (h : VAt w b zs ks) (hB : Below w.heap.size w w') : VAt w' b zs ks := by
  obtain ⟨v1, v2, h1, h2, h3⟩ := h
  exact ⟨v1, v2, h1.below hB, h2.below hB, h3.below hB⟩
theorem VAt.lt {w : World} {b : Nat} {zs ks : List (Int × Int)} (h : VAt w b zs ks) : b < w.heap.size := by
  obtain ⟨v1, v2, h1, _⟩ := h; exact h1.lt
theorem own_vr {w : World} {base b : Nat} {e : TypeId} {v : Value} {zs : List (Int × Int)} (h : w.ownsRow base e 2 v zs.length (flat zs)) (hl : zs.length ≤ 1000) (hb : b < base) : VR w b v zs :=
  ⟨own_psl h hl, fun he => by have := (h.lt b he).1; omega⟩
theorem VR.nil (w : World) (b : Nat) : VR w b (.slice none 0 0) [] := ⟨⟨by simp, .inl ⟨rfl, none, 0, rfl⟩⟩, by simp [Value.ownBlock]⟩
theorem vltNew (w : World) : Calls Tryz.prog 62 #[] w fun e w' => e = .returned (.pointer (some ⟨w.heap.size, 0, none⟩)) ∧ VAt w' w.heap.size [] [] ∧ Below w.heap.size w w' := by
  go_enter Tryz.func62, Tryz.ntmps62
  go_wp2
  go_ret
  exact ⟨rfl, ⟨_, _, ObjAt.new _ _ _, VR.nil _ _, VR.nil _ _⟩, by go_grown⟩
theorem vltSpend_bad {n u now c : Int} {zs ks : List (Int × Int)} (hc : spMoreE zs n u now = c) (h0 : c ≠ 0) (b : Nat) (w : World) (h : VAt w b zs ks) :
    Calls Tryz.prog 178 #[.pointer (some ⟨b, 0, none⟩), .int .i64 n, .int .i64 u, .int .i64 now] w fun e w' => e = .returned (errV c) ∧ VAt w' b zs ks ∧ Kept [b] w w' := by
  obtain ⟨v1, v2, ho, h1, h2⟩ := h
  have C := hide (spMore_bad hc h0 v1 w h1.1)
  have q0 := ho.cell (i := 0) rfl
  have HV : Hid (VAt w b zs ks) := hide ⟨v1, v2, ho, h1, h2⟩
  have t0 : (c == 0) = false := beq_eq_false_iff_ne.2 h0
  clear ho h1 h2 hc h0
  go_enter Tryz.func178, Tryz.ntmps178
  go_wp2_with fail
  refine C.out.mono ?_
  rintro e w1 ⟨rfl, hb1⟩
  go_wp2
  go_ret
  exact ⟨rfl, HV.out.below hb1, Kept.of_below hb1 _⟩
theorem vltSpend_ok {n u now : Int} {zs ks : List (Int × Int)} (hc : spMoreE zs n u now = 0) (hl : zs.length ≤ 999) (b : Nat) (w : World) (h : VAt w b zs ks) :
    Calls Tryz.prog 178 #[.pointer (some ⟨b, 0, none⟩), .int .i64 n, .int .i64 u, .int .i64 now] w fun e w' => e = .returned .nilIface ∧ VAt w' b (spDrop zs now ++ [(n, u)]) ks ∧ Kept [b] w w' := by
  obtain ⟨v1, v2, ho, h1, h2⟩ := h
  have C := hide (spMore_ok hc v1 w h1.1)
  have q0 := ho.cell (i := 0) rfl
  have hbl := ho.lt
  have HO := hide ho
  have H2 := hide h2
  have hdl : (spDrop zs now ++ [(n, u)]).length ≤ 1000 := by have := spDrop_le zs now; simp; omega
  have HDL := hide hdl
  clear ho h1 h2 hc hdl
  go_enter Tryz.func178, Tryz.ntmps178
  go_wp2_with fail
  refine C.out.mono ?_
  rintro e w1 ⟨v', rfl, hown, hb1⟩
  obtain ⟨a', c', hv'⟩ := own_sl hown
  have o1 := HO.out.below hb1
  have f0 := o1.free 0
  have f1 := o1.free 1
  have p0 := o1.cell (i := 0) rfl
  have hk1 : Kept [b] w (w1.setCell ⟨b, 0, none⟩ v') := (Kept.of_below hb1 _).setCell (.inl (by simp)) _
  have hvr : VR w1 b v' (spDrop zs now ++ [(n, u)]) := own_vr hown HDL.out (by omega)
  have hk2 : Kept [b] w1 (w1.setCell ⟨b, 0, none⟩ v') := (Kept.refl _ _).setCell (.inl (by simp)) _
  have hfin : Hid (VAt (w1.setCell ⟨b, 0, none⟩ v') b (spDrop zs now ++ [(n, u)]) ks ∧ Kept [b] w (w1.setCell ⟨b, 0, none⟩ v')) := hide ⟨⟨v', v2, o1.set 0 v', hvr.kept hk2, H2.out.kept hk1⟩, hk1⟩
  clear o1 hown hb1 hk1 hvr hk2
  subst hv'
  go_wp2
  go_ret
  exact ⟨rfl, by have q := hfin.out; rw [List.length_append] at q; exact q⟩
theorem vltSync {zs ks : List (Int × Int)} (b : Nat) (w : World) (h : VAt w b zs ks) :
    Calls Tryz.prog 179 #[.pointer (some ⟨b, 0, none⟩)] w fun e w' => e = .returned (.tuple #[]) ∧ VAt w' b zs zs ∧ Kept [b] w w' := by
  obtain ⟨v1, v2, ho, h1, h2⟩ := h
  have C := hide (spClone v1 zs w h1.1)
  have q0 := ho.cell (i := 0) rfl
  have hbl := ho.lt
  have hl := h1.1.1
  have HO := hide ho
  have H1 := hide h1
  clear ho h1 h2
  go_enter Tryz.func179, Tryz.ntmps179
  go_wp2_with fail
  refine C.out.mono ?_
  rintro e w1 ⟨v', rfl, hown, hb1⟩
  obtain ⟨a', c', hv'⟩ := own_sl hown
  have o1 := HO.out.below hb1
  have f1 := o1.free 1
  have p1 := o1.cell (i := 1) rfl
  have hk1 : Kept [b] w (w1.setCell ⟨b, 1, none⟩ v') := (Kept.of_below hb1 _).setCell (.inl (by simp)) _
  have hvr : VR w1 b v' zs := own_vr hown hl hbl
  have hk2 : Kept [b] w1 (w1.setCell ⟨b, 1, none⟩ v') := (Kept.refl _ _).setCell (.inl (by simp)) _
  have hfin : Hid (VAt (w1.setCell ⟨b, 1, none⟩ v') b zs zs ∧ Kept [b] w (w1.setCell ⟨b, 1, none⟩ v')) := hide ⟨⟨v1, v', o1.set 1 v', H1.out.kept hk1, hvr.kept hk2⟩, hk1⟩
  clear o1 hown hb1 hk1 hvr hk2
  subst hv'
  go_wp2
  go_returns
  exact ⟨rfl, hfin.out⟩
theorem vltCrash {zs ks : List (Int × Int)} (b : Nat) (w : World) (h : VAt w b zs ks) :
    Calls Tryz.prog 143 #[.pointer (some ⟨b, 0, none⟩)] w fun e w' => e = .returned (.tuple #[]) ∧ VAt w' b ks ks ∧ Kept [b] w w' := by
  obtain ⟨v1, v2, ho, h1, h2⟩ := h
  have C := hide (spClone v2 ks w h2.1)
  have q1 := ho.cell (i := 1) rfl
  have hbl := ho.lt
  have hl := h2.1.1
  have HO := hide ho
  have H2 := hide h2
  clear ho h1 h2
  go_enter Tryz.func143, Tryz.ntmps143
  go_wp2_with fail
  refine C.out.mono ?_
  rintro e w1 ⟨v', rfl, hown, hb1⟩
  obtain ⟨a', c', hv'⟩ := own_sl hown
  have o1 := HO.out.below hb1
  have f0 := o1.free 0
  have p0 := o1.cell (i := 0) rfl
  have hk1 : Kept [b] w (w1.setCell ⟨b, 0, none⟩ v') := (Kept.of_below hb1 _).setCell (.inl (by simp)) _
  have hvr : VR w1 b v' ks := own_vr hown hl hbl
  have hk2 : Kept [b] w1 (w1.setCell ⟨b, 0, none⟩ v') := (Kept.refl _ _).setCell (.inl (by simp)) _
  have hfin : Hid (VAt (w1.setCell ⟨b, 0, none⟩ v') b ks ks ∧ Kept [b] w (w1.setCell ⟨b, 0, none⟩ v')) := hide ⟨⟨v', v2, o1.set 0 v', hvr.kept hk2, H2.out.kept hk1⟩, hk1⟩
  clear o1 hown hb1 hk1 hvr hk2
  subst hv'
  go_wp2
  go_returns
  exact ⟨rfl, hfin.out⟩
/-- what is told of a number -/
def vltN (zs : List (Int × Int)) (n : Int) : Bool × Int := if inB n then (zs.any (fun x => x.1 == n), 0) else (false, 1)
end Go.Proofs.YtjbpkmmpbhngbaaGreatDoor
