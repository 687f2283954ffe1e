/- vault, its two rows written out: by contracts that tell that a new row is new. block: Crash. issue: Crash by contract. The whole server: its object, queue, issuer and vault, apart from each other. -/
import Derived.Test.YtlnghfmcofmkjaaGreatDoorRunAnswersProofM13
import Derived.Test.YtlnghfmcofmkjaaGreatDoorRunAnswersProofM12
namespace Go.Proofs.YtlnghfmcofmkjaaGreatDoor
open Go.RowKit

/-- the vault at b, its rows written out -/
def VA (w : World) (b : Nat) (v1 v2 : Value) (zs ks : List (Int × Int)) : Prop := ObjAt w b 116 [v1, v2] ∧ VR w b v1 zs ∧ VR w b v2 ks
/-- the row of v is none, or is new -/
def vNew (w w' : World) (v : Value) : Prop := v.ownBlock = none ∨ ∃ g, v.ownBlock = some g ∧ w.heap.size ≤ g ∧ g < w'.heap.size
theorem VA.below {w w' : World} {b : Nat} {v1 v2 : Value} {zs ks : List (Int × Int)} (h : VA w b v1 v2 zs ks) (hb : Below w.heap.size w w') : VA w' b v1 v2 zs ks := ⟨h.1.below hb, h.2.1.below hb, h.2.2.below hb⟩
theorem own_vnew {w : World} {base size n : Nat} {e : TypeId} {v : Value} {xs : List Value} {W : World} (h : w.ownsRow base e size v n xs) (hb : W.heap.size ≤ base) (i : Nat) (u : Value) (b : Nat) : vNew W (w.setCell ⟨b, i, none⟩ u) v := by
  rcases h.2 with ⟨rfl, _⟩ | ⟨g, cap, cur, rfl, h3, h4, _⟩
  · exact .inl rfl
  · exact .inr ⟨g, rfl, Nat.le_trans hb h3, by simpa using lt_of_block h4⟩
theorem psl_lt {w : World} {v : Value} {zs : List (Int × Int)} (h : PSl w v zs) (hz : zs ≠ []) : ∀ g, v.ownBlock = some g → g < w.heap.size := by
  rcases h.2 with ⟨h0, _⟩ | ⟨b, off, c, rfl, _, hb, _⟩
  · exact absurd h0 hz
  · intro g hg
    simp [Value.ownBlock] at hg
    omega
theorem vaNew (w : World) : Calls Tryz.prog 31 #[] w fun e w' => ∃ bv, e = .returned (.pointer (some ⟨bv, 0, none⟩)) ∧ w.heap.size ≤ bv ∧ VA w' bv (.slice none 0 0) (.slice none 0 0) [] [] ∧ Below w.heap.size w w' := by
  go_enter Tryz.func31, Tryz.ntmps31
  go_wp2
  go_ret
  exact ⟨_, rfl, Nat.le_refl _, ⟨ObjAt.new _ _ _, VR.nil _ _, VR.nil _ _⟩, by go_grown⟩
theorem vaSpend_bad {n u now c : Int} {zs ks : List (Int × Int)} {v1 v2 : Value} (hc : spMoreE zs n u now = c) (h0 : c ≠ 0) (b : Nat) (w : World) (h : VA w b v1 v2 zs ks) :
    Calls Tryz.prog 129 #[.pointer (some ⟨b, 0, none⟩), .int .i64 n, .int .i64 u, .int .i64 now] w fun e w' => e = .returned (errV c) ∧ Below w.heap.size w w' := by
  obtain ⟨ho, h1, h2⟩ := h
  have C := hide (spMore_bad hc h0 v1 w h1.1)
  have q0 := ho.cell (i := 0) rfl
  have t0 : (c == 0) = false := beq_eq_false_iff_ne.2 h0
  clear ho h1 h2 hc h0
  go_enter Tryz.func129, Tryz.ntmps129
  go_wp2_with fail
  refine C.out.mono ?_
  rintro e w1 ⟨rfl, hb1⟩
  go_wp2
  go_ret
  exact ⟨rfl, hb1⟩
theorem vaSpend_ok {n u now : Int} {zs ns ks : List (Int × Int)} {v1 v2 : Value} (hns : spDrop zs now ++ [(n, u)] = ns) (hc : spMoreE zs n u now = 0) (hl : zs.length ≤ 999) (b : Nat) (w : World) (h : VA w b v1 v2 zs ks) :
    Calls Tryz.prog 129 #[.pointer (some ⟨b, 0, none⟩), .int .i64 n, .int .i64 u, .int .i64 now] w fun e w' => e = .returned .nilIface ∧ ∃ v', VA w' b v' v2 ns ks ∧ vNew w w' v' ∧ Kept [b] w w' := by
  obtain ⟨ho, h1, h2⟩ := h
  have C := hide (spMore_ok hc v1 w h1.1)
  have q0 := ho.cell (i := 0) rfl
  have hbl := ho.lt
  have HO := hide ho
  have H2 := hide h2
  have hdl : (spDrop zs now ++ [(n, u)]).length ≤ 1000 := by have := spDrop_le zs now; simp; omega
  rw [hns] at C hdl
  have HDL := hide hdl
  clear ho h1 h2 hc hdl hns
  go_enter Tryz.func129, Tryz.ntmps129
  go_wp2_with fail
  refine C.out.mono ?_
  rintro e w1 ⟨v', rfl, hown, hb1⟩
  obtain ⟨a', c', hv'⟩ := own_sl hown
  have o1 := HO.out.below hb1
  have f0 := o1.free 0
  have f1 := o1.free 1
  have p0 := o1.cell (i := 0) rfl
  have hk1 : Kept [b] w (w1.setCell ⟨b, 0, none⟩ v') := (Kept.of_below hb1 _).setCell (.inl (by simp)) _
  have hvr : VR w1 b v' ns := own_vr hown HDL.out (by omega)
  have hk2 : Kept [b] w1 (w1.setCell ⟨b, 0, none⟩ v') := (Kept.refl _ _).setCell (.inl (by simp)) _
  have hfin : Hid (VA (w1.setCell ⟨b, 0, none⟩ v') b v' v2 ns ks ∧ vNew w (w1.setCell ⟨b, 0, none⟩ v') v' ∧ Kept [b] w (w1.setCell ⟨b, 0, none⟩ v')) := hide ⟨⟨o1.set 0 v', hvr.kept hk2, H2.out.kept hk1⟩, own_vnew hown (Nat.le_succ _) _ _ _, hk1⟩
  clear o1 hown hb1 hk1 hvr hk2
  subst hv'
  go_wp2
  go_ret
  exact ⟨rfl, _, hfin.out⟩
theorem vaSync {zs ks : List (Int × Int)} {v1 v2 : Value} (b : Nat) (w : World) (h : VA w b v1 v2 zs ks) :
    Calls Tryz.prog 130 #[.pointer (some ⟨b, 0, none⟩)] w fun e w' => e = .returned (.tuple #[]) ∧ ∃ v', VA w' b v1 v' zs zs ∧ vNew w w' v' ∧ Kept [b] w w' := by
  obtain ⟨ho, h1, h2⟩ := h
  have C := hide (spClone v1 zs w h1.1)
  have q0 := ho.cell (i := 0) rfl
  have hbl := ho.lt
  have hl := h1.1.1
  have HO := hide ho
  have H1 := hide h1
  clear ho h1 h2
  go_enter Tryz.func130, Tryz.ntmps130
  go_wp2_with fail
  refine C.out.mono ?_
  rintro e w1 ⟨v', rfl, hown, hb1⟩
  obtain ⟨a', c', hv'⟩ := own_sl hown
  have o1 := HO.out.below hb1
  have f1 := o1.free 1
  have p1 := o1.cell (i := 1) rfl
  have hk1 : Kept [b] w (w1.setCell ⟨b, 1, none⟩ v') := (Kept.of_below hb1 _).setCell (.inl (by simp)) _
  have hvr : VR w1 b v' zs := own_vr hown hl hbl
  have hk2 : Kept [b] w1 (w1.setCell ⟨b, 1, none⟩ v') := (Kept.refl _ _).setCell (.inl (by simp)) _
  have hfin : Hid (VA (w1.setCell ⟨b, 1, none⟩ v') b v1 v' zs zs ∧ vNew w (w1.setCell ⟨b, 1, none⟩ v') v' ∧ Kept [b] w (w1.setCell ⟨b, 1, none⟩ v')) := hide ⟨⟨o1.set 1 v', H1.out.kept hk1, hvr.kept hk2⟩, own_vnew hown (Nat.le_refl _) _ _ _, hk1⟩
  clear o1 hown hb1 hk1 hvr hk2
  subst hv'
  go_wp2
  go_returns
  exact ⟨rfl, _, hfin.out⟩
theorem vaCrash {zs ks : List (Int × Int)} {v1 v2 : Value} (b : Nat) (w : World) (h : VA w b v1 v2 zs ks) :
    Calls Tryz.prog 93 #[.pointer (some ⟨b, 0, none⟩)] w fun e w' => e = .returned (.tuple #[]) ∧ ∃ v', VA w' b v' v2 ks ks ∧ vNew w w' v' ∧ Kept [b] w w' := by
  obtain ⟨ho, h1, h2⟩ := h
  have C := hide (spClone v2 ks w h2.1)
  have q1 := ho.cell (i := 1) rfl
  have hbl := ho.lt
  have hl := h2.1.1
  have HO := hide ho
  have H2 := hide h2
  clear ho h1 h2
  go_enter Tryz.func93, Tryz.ntmps93
  go_wp2_with fail
  refine C.out.mono ?_
  rintro e w1 ⟨v', rfl, hown, hb1⟩
  obtain ⟨a', c', hv'⟩ := own_sl hown
  have o1 := HO.out.below hb1
  have f0 := o1.free 0
  have p0 := o1.cell (i := 0) rfl
  have hk1 : Kept [b] w (w1.setCell ⟨b, 0, none⟩ v') := (Kept.of_below hb1 _).setCell (.inl (by simp)) _
  have hvr : VR w1 b v' ks := own_vr hown hl hbl
  have hk2 : Kept [b] w1 (w1.setCell ⟨b, 0, none⟩ v') := (Kept.refl _ _).setCell (.inl (by simp)) _
  have hfin : Hid (VA (w1.setCell ⟨b, 0, none⟩ v') b v' v2 ks ks ∧ vNew w (w1.setCell ⟨b, 0, none⟩ v') v' ∧ Kept [b] w (w1.setCell ⟨b, 0, none⟩ v')) := hide ⟨⟨o1.set 0 v', hvr.kept hk2, H2.out.kept hk1⟩, own_vnew hown (Nat.le_refl _) _ _ _, hk1⟩
  clear o1 hown hb1 hk1 hvr hk2
  subst hv'
  go_wp2
  go_returns
  exact ⟨rfl, _, hfin.out⟩
end Go.Proofs.YtlnghfmcofmkjaaGreatDoor

namespace Go.Proofs.YtlnghfmcofmkjaaGreatDoor
open Go.RowKit
theorem blockCrash (b : Nat) (n m : Int) (w : World) (h : BlkAt w b n m) :
    Calls Tryz.prog 111 #[.pointer (some ⟨b, 0, none⟩)] w fun e w' => e = .returned (.tuple #[]) ∧ BlkAt w' b m m ∧ Kept [b] w w' := by
  have c0 := h.cell (i := 0) rfl
  have c1 := h.cell (i := 1) rfl
  have f0 := h.free 0
  have fin : BlkAt (w.setCell ⟨b, 0, none⟩ (.int .i64 m)) b m m ∧ Kept [b] w (w.setCell ⟨b, 0, none⟩ (.int .i64 m)) := ⟨h.set 0 _, (Kept.refl _ _).setCell (.inl (by simp)) _⟩
  have Fin := hide fin
  clear fin h
  go_enter Tryz.func111, Tryz.ntmps111
  go_wp2
  go_returns
  exact ⟨rfl, Fin.out⟩
end Go.Proofs.YtlnghfmcofmkjaaGreatDoor

namespace Go.Proofs.YtlnghfmcofmkjaaGreatDoor
open Go.RowKit

theorem issueCrash (b bb : Nat) (n m many : Int) (w : World) (h : IssAt w b bb n m many) :
    Calls Tryz.prog 92 #[.pointer (some ⟨b, 0, none⟩)] w fun e w' => e = .returned (.tuple #[]) ∧ IssAt w' b bb m m many ∧ Kept [b, bb] w w' := by
  obtain ⟨hI, hK, hne⟩ := h
  have q0 := hI.cell (i := 0) rfl
  have C := hide (blockCrash bb n m w hK)
  have HI := hide hI
  clear hI hK
  go_enter Tryz.func92, Tryz.ntmps92
  go_wp2_with fail
  refine C.out.mono ?_
  rintro e w1 ⟨rfl, ho, hk⟩
  go_wp2
  go_returns
  exact ⟨rfl, ⟨hk.obj HI.out (by simpa using hne), ho, hne⟩, hk.mono (fun x hx => by simp at hx; simp [hx])⟩
end Go.Proofs.YtlnghfmcofmkjaaGreatDoor

namespace Go.Proofs.YtlnghfmcofmkjaaGreatDoor
open Go.RowKit

/-- the blocks of a vault; of a server -/
def vS (bv : Nat) (v1 v2 : Value) : List Nat := bv :: (v1.ownBlock.toList ++ v2.ownBlock.toList)
def svF (b q bi bb bv : Nat) (v v1 v2 : Value) : List Nat := b :: (qS q v ++ (bi :: bb :: vS bv v1 v2))
theorem mem_vS {bv x : Nat} {v1 v2 : Value} : x ∈ vS bv v1 v2 ↔ x = bv ∨ v1.ownBlock = some x ∨ v2.ownBlock = some x := by
  unfold vS
  cases v1.ownBlock <;> cases v2.ownBlock <;> simp [eq_comm]
theorem mem_svF {b q bi bb bv x : Nat} {v v1 v2 : Value} : x ∈ svF b q bi bb bv v v1 v2 ↔ x = b ∨ x ∈ qS q v ∨ (x = bi ∨ x = bb) ∨ x ∈ vS bv v1 v2 := by
  unfold svF
  simp [or_assoc]
structure SV (w : World) (B b q bi bb bv : Nat) (e k o li cn : Int) (v v1 v2 : Value) (zs z1 z2 : List (Int × Int)) (n m many : Int) : Prop where
  obj : ObjAt w b 90 [.int .i64 e, .int .i64 k, .int .i64 o, .int .i64 li, .pointer (some ⟨q, 0, none⟩), .pointer (some ⟨bi, 0, none⟩), .pointer (some ⟨bv, 0, none⟩), .int .i64 cn]
  que : QAt 110 w q v zs
  iss : IssAt w bi bb n m many
  va : VA w bv v1 v2 z1 z2
  lt : ∀ x, x ∈ svF b q bi bb bv v v1 v2 → B ≤ x ∧ x < w.heap.size
  d1 : b ∉ qS q v ∧ (b ≠ bi ∧ b ≠ bb) ∧ b ∉ vS bv v1 v2
  d2 : ∀ x, x ∈ qS q v → (x ≠ bi ∧ x ≠ bb) ∧ x ∉ vS bv v1 v2
  d3 : bi ∉ vS bv v1 v2 ∧ bb ∉ vS bv v1 v2
theorem SV.sq {w : World} {B b q bi bb bv : Nat} {e k o li cn : Int} {v v1 v2 : Value} {zs z1 z2 : List (Int × Int)} {n m many : Int} (h : SV w B b q bi bb bv e k o li cn v v1 v2 zs z1 z2 n m many) : SQ w b e k o li q bi bv cn v zs :=
  { obj := h.obj, que := h.que, ne := fun e' => h.d1.1 (mem_qS.2 (.inl e')), row := fun e' => h.d1.1 (mem_qS.2 (.inr e')) }
theorem VA.kept {S : List Nat} {w w' : World} {b : Nat} {v1 v2 : Value} {zs ks : List (Int × Int)} (h : VA w b v1 v2 zs ks) (hk : Kept S w w') (hn : ∀ x, x ∈ S → x ∉ vS b v1 v2) : VA w' b v1 v2 zs ks :=
  ⟨hk.obj h.1 (fun hm => hn _ hm (mem_vS.2 (.inl rfl))), ⟨h.2.1.1.kept hk (fun x hx e => hn x hx (mem_vS.2 (.inr (.inl e)))), h.2.1.2⟩, ⟨h.2.2.1.kept hk (fun x hx e => hn x hx (mem_vS.2 (.inr (.inr e)))), h.2.2.2⟩⟩
theorem IssAt.kept {S : List Nat} {w w' : World} {bi bb : Nat} {n m many : Int} (h : IssAt w bi bb n m many) (hk : Kept S w w') (h1 : bi ∉ S) (h2 : bb ∉ S) : IssAt w' bi bb n m many := ⟨hk.obj h.1 h1, Kept.obj hk h.2.1 h2, h.2.2⟩
theorem SV.below {w w' : World} {B b q bi bb bv : Nat} {e k o li cn : Int} {v v1 v2 : Value} {zs z1 z2 : List (Int × Int)} {n m many : Int} (h : SV w B b q bi bb bv e k o li cn v v1 v2 zs z1 z2 n m many) (hb : Below w.heap.size w w') : SV w' B b q bi bb bv e k o li cn v v1 v2 zs z1 z2 n m many :=
  { h with obj := h.obj.below hb, que := h.que.below hb, iss := h.iss.below hb, va := h.va.below hb, lt := fun x hx => ⟨(h.lt x hx).1, Nat.lt_of_lt_of_le (h.lt x hx).2 hb.size⟩ }
/-- a step of a server whose blocks were F and are F' -/
def SVst (F F' : List Nat) (w w' : World) : Prop := Kept F w w' ∧ ∀ x, x ∈ F' → x ∈ F ∨ w.heap.size ≤ x
theorem SVst.trans {F F' F'' : List Nat} {w w' w'' : World} (h : SVst F F' w w') (k : SVst F' F'' w' w'') : SVst F F'' w w'' :=
  ⟨h.1.step k.1 h.2, fun x hx => by
    rcases k.2 x hx with h1 | h1
    · exact h.2 x h1
    · exact .inr (Nat.le_trans h.1.size h1)⟩
theorem SVst.pre {F F' : List Nat} {w W w' : World} (hb : Below w.heap.size w W) (h : SVst F F' W w') : SVst F F' w w' :=
  ⟨(Kept.of_below hb _).trans h.1, fun x hx => (h.2 x hx).imp id (Nat.le_trans hb.size)⟩
theorem SVst.of_below {F : List Nat} {w w' : World} (hb : Below w.heap.size w w') : SVst F F w w' := ⟨Kept.of_below hb _, fun _ hx => .inl hx⟩
theorem SVst.post {F F' : List Nat} {w w' w'' : World} (h : SVst F F' w w') (hb : Below w'.heap.size w' w'') : SVst F F' w w'' := h.trans (SVst.of_below hb)
/-- a block that is not the server's stays so -/
theorem SVst.out {F F' : List Nat} {w w' : World} (h : SVst F F' w w') {X : Nat} (hX : X < w.heap.size) (hn : X ∉ F) : X ∉ F' := fun hm => by
  rcases h.2 X hm with h1 | h1
  · exact hn h1
  · omega
theorem SV.bel {a w w' : World} {B b q bi bb bv : Nat} {e k o li cn : Int} {v v1 v2 : Value} {zs z1 z2 : List (Int × Int)} {n m many : Int} {F' : List Nat} (h : SV w B b q bi bb bv e k o li cn v v1 v2 zs z1 z2 n m many) (ha : Below B a w) (hB : B ≤ w.heap.size) (hk : SVst (svF b q bi bb bv v v1 v2) F' w w') : Below B a w' :=
  ha.trans (hk.1.below hB (fun x hx => (h.lt x hx).1))
/-- a cell of a block that is not the server's -/
theorem SV.set {w : World} {B b q bi bb bv : Nat} {e k o li cn : Int} {v v1 v2 : Value} {zs z1 z2 : List (Int × Int)} {n m many : Int} (h : SV w B b q bi bb bv e k o li cn v v1 v2 zs z1 z2 n m many) {X : Nat} (hX : X ∉ svF b q bi bb bv v v1 v2) (i : Nat) (u : Value) : SV (w.setCell ⟨X, i, none⟩ u) B b q bi bb bv e k o li cn v v1 v2 zs z1 z2 n m many := by
  have hk : Kept [X] w (w.setCell ⟨X, i, none⟩ u) := (Kept.refl _ _).setCell (p := ⟨X, i, none⟩) (.inl (by simp)) u
  have hn : ∀ x, x ∈ svF b q bi bb bv v v1 v2 → x ∉ [X] := fun x hx hm => by simp at hm; exact hX (by rw [← hm]; exact hx)
  exact { h with
    obj := hk.obj h.obj (hn _ (mem_svF.2 (.inl rfl)))
    que := h.que.kept hk (hn _ (mem_svF.2 (.inr (.inl (mem_qS.2 (.inl rfl)))))) (fun g hg => hn _ (mem_svF.2 (.inr (.inl (mem_qS.2 (.inr hg))))))
    iss := h.iss.kept hk (hn _ (mem_svF.2 (.inr (.inr (.inl (.inl rfl)))))) (hn _ (mem_svF.2 (.inr (.inr (.inl (.inr rfl))))))
    va := h.va.kept hk (fun x hx hm => hn x (mem_svF.2 (.inr (.inr (.inr hm)))) hx)
    lt := fun x hx => ⟨(h.lt x hx).1, by simpa using (h.lt x hx).2⟩ }
/-- the queue's step -/
theorem SV.stepq {w w' : World} {B b q bi bb bv : Nat} {e k o li cn : Int} {v v' v1 v2 : Value} {zs zs' z1 z2 : List (Int × Int)} {n m many : Int} (h : SV w B b q bi bb bv e k o li cn v v1 v2 zs z1 z2 n m many) (hB : B ≤ w.heap.size) (hq : QAt 110 w' q v' zs') (hr : rowOf w v v') (hk : Kept (qS q v) w w') :
    SV w' B b q bi bb bv e k o li cn v' v1 v2 zs' z1 z2 n m many ∧ SVst (svF b q bi bb bv v v1 v2) (svF b q bi bb bv v' v1 v2) w w' := by
  have hin : ∀ x, x ∈ qS q v' → x ∈ qS q v ∨ w.heap.size ≤ x := fun x hx => by
    rcases mem_qS.1 hx with rfl | hx
    · exact .inl (mem_qS.2 (.inl rfl))
    · rcases hr with e' | ⟨g, e', hg⟩
      · exact .inl (mem_qS.2 (.inr (by rw [← e']; exact hx)))
      · rw [hx] at e'; have := Option.some.inj e'; exact .inr (by omega)
  have hlt : ∀ x, x ∈ svF b q bi bb bv v v1 v2 → x < w.heap.size := fun x hx => (h.lt x hx).2
  have hbi : bi < w.heap.size := hlt _ (mem_svF.2 (.inr (.inr (.inl (.inl rfl)))))
  have hbb : bb < w.heap.size := hlt _ (mem_svF.2 (.inr (.inr (.inl (.inr rfl)))))
  have hb : b < w.heap.size := h.obj.lt
  have hvs : ∀ x, x ∈ vS bv v1 v2 → x < w.heap.size := fun x hx => hlt _ (mem_svF.2 (.inr (.inr (.inr hx))))
  refine ⟨{ obj := hk.obj h.obj h.d1.1, que := hq, iss := h.iss.kept hk (fun hm => (h.d2 _ hm).1.1 rfl) (fun hm => (h.d2 _ hm).1.2 rfl), va := h.va.kept hk (fun x hx => (h.d2 x hx).2), lt := fun x hx => ?_, d1 := ⟨fun hm => ?_, h.d1.2⟩, d2 := fun x hx => ?_, d3 := h.d3 }, ?_, ?_⟩
  · rcases mem_svF.1 hx with hx | hx | hx
    · exact ⟨(h.lt x (mem_svF.2 (.inl hx))).1, Nat.lt_of_lt_of_le (h.lt x (mem_svF.2 (.inl hx))).2 hk.size⟩
    · rcases mem_qS.1 hx with rfl | hx'
      · exact ⟨(h.lt _ (mem_svF.2 (.inr (.inl (mem_qS.2 (.inl rfl)))))).1, hq.1.lt⟩
      · refine ⟨?_, hq.2.1.lt _ hx'⟩
        rcases hin x hx with h1 | h1
        · exact (h.lt _ (mem_svF.2 (.inr (.inl h1)))).1
        · omega
    · exact ⟨(h.lt x (mem_svF.2 (.inr (.inr hx)))).1, Nat.lt_of_lt_of_le (h.lt x (mem_svF.2 (.inr (.inr hx)))).2 hk.size⟩
  · rcases hin _ hm with h1 | h1
    · exact h.d1.1 h1
    · omega
  · rcases hin x hx with h1 | h1
    · exact h.d2 x h1
    · exact ⟨⟨by omega, by omega⟩, fun hm => by have := hvs _ hm; omega⟩
  · exact hk.mono (fun x hx => mem_svF.2 (.inr (.inl hx)))
  · intro x hx
    rcases mem_svF.1 hx with hx | hx | hx
    · exact .inl (mem_svF.2 (.inl hx))
    · exact (hin x hx).imp (fun h1 => mem_svF.2 (.inr (.inl h1))) id
    · exact .inl (mem_svF.2 (.inr (.inr hx)))
/-- the vault's step -/
theorem SV.stepv {w w' : World} {B b q bi bb bv : Nat} {e k o li cn : Int} {v v1 v2 v1' v2' : Value} {zs z1 z2 z1' z2' : List (Int × Int)} {n m many : Int} (h : SV w B b q bi bb bv e k o li cn v v1 v2 zs z1 z2 n m many) (hB : B ≤ w.heap.size) (hv : VA w' bv v1' v2' z1' z2') (h1 : v1' = v1 ∨ v1' = v2 ∨ vNew w w' v1') (h2 : v2' = v2 ∨ v2' = v1 ∨ vNew w w' v2') (hk : Kept [bv] w w') :
    SV w' B b q bi bb bv e k o li cn v v1' v2' zs z1' z2' n m many ∧ SVst (svF b q bi bb bv v v1 v2) (svF b q bi bb bv v v1' v2') w w' := by
  have hin : ∀ x, x ∈ vS bv v1' v2' → x ∈ vS bv v1 v2 ∨ (w.heap.size ≤ x ∧ x < w'.heap.size) := by
    have aux : ∀ (u : Value), (u = v1 ∨ u = v2 ∨ vNew w w' u) → ∀ x, u.ownBlock = some x → x ∈ vS bv v1 v2 ∨ (w.heap.size ≤ x ∧ x < w'.heap.size) := by
      intro u hu x hx
      rcases hu with rfl | rfl | e' | ⟨g, e', hg, hg2⟩
      · exact .inl (mem_vS.2 (.inr (.inl hx)))
      · exact .inl (mem_vS.2 (.inr (.inr hx)))
      · rw [e'] at hx; cases hx
      · rw [hx] at e'; have := Option.some.inj e'; exact .inr ⟨by omega, by omega⟩
    intro x hx
    rcases mem_vS.1 hx with rfl | hx | hx
    · exact .inl (mem_vS.2 (.inl rfl))
    · exact aux v1' h1 x hx
    · exact aux v2' (h2.elim (fun e' => .inr (.inl e')) (fun e' => e'.elim .inl (fun e'' => .inr (.inr e'')))) x hx
  have hlt : ∀ x, x ∈ svF b q bi bb bv v v1 v2 → x < w.heap.size := fun x hx => (h.lt x hx).2
  have hbi : bi < w.heap.size := hlt _ (mem_svF.2 (.inr (.inr (.inl (.inl rfl)))))
  have hbb : bb < w.heap.size := hlt _ (mem_svF.2 (.inr (.inr (.inl (.inr rfl)))))
  have hb : b < w.heap.size := h.obj.lt
  have hqs : ∀ x, x ∈ qS q v → x < w.heap.size := fun x hx => hlt _ (mem_svF.2 (.inr (.inl hx)))
  have hbv : bv ∈ vS bv v1 v2 := mem_vS.2 (.inl rfl)
  have nb : ∀ x, x ∉ vS bv v1 v2 → x ∉ [bv] := fun x hx hm => by simp at hm; exact hx (by rw [hm]; exact hbv)
  refine ⟨{ obj := hk.obj h.obj (nb _ h.d1.2.2), que := h.que.kept hk (nb _ (h.d2 _ (mem_qS.2 (.inl rfl))).2) (fun g hg => nb _ (h.d2 _ (mem_qS.2 (.inr hg))).2), iss := h.iss.kept hk (nb _ h.d3.1) (nb _ h.d3.2), va := hv, lt := fun x hx => ?_, d1 := ⟨h.d1.1, h.d1.2.1, fun hm => ?_⟩, d2 := fun x hx => ⟨(h.d2 x hx).1, fun hm => ?_⟩, d3 := ⟨fun hm => ?_, fun hm => ?_⟩ }, ?_, ?_⟩
  · have old : ∀ x, x ∈ svF b q bi bb bv v v1 v2 → B ≤ x ∧ x < w'.heap.size := fun x hx => ⟨(h.lt x hx).1, Nat.lt_of_lt_of_le (h.lt x hx).2 hk.size⟩
    rcases mem_svF.1 hx with hx | hx | hx | hx
    · exact old x (mem_svF.2 (.inl hx))
    · exact old x (mem_svF.2 (.inr (.inl hx)))
    · exact old x (mem_svF.2 (.inr (.inr (.inl hx))))
    · rcases hin x hx with h3 | h3
      · exact old x (mem_svF.2 (.inr (.inr (.inr h3))))
      · exact ⟨by omega, h3.2⟩
  · rcases hin _ hm with h3 | h3
    · exact h.d1.2.2 h3
    · omega
  · rcases hin _ hm with h3 | h3
    · exact (h.d2 x hx).2 h3
    · have := hqs x hx; omega
  · rcases hin _ hm with h3 | h3
    · exact h.d3.1 h3
    · omega
  · rcases hin _ hm with h3 | h3
    · exact h.d3.2 h3
    · omega
  · exact hk.mono (fun x hx => by simp at hx; exact mem_svF.2 (.inr (.inr (.inr (by rw [hx]; exact hbv)))))
  · intro x hx
    rcases mem_svF.1 hx with hx | hx | hx | hx
    · exact .inl (mem_svF.2 (.inl hx))
    · exact .inl (mem_svF.2 (.inr (.inl hx)))
    · exact .inl (mem_svF.2 (.inr (.inr (.inl hx))))
    · exact (hin x hx).imp (fun h3 => mem_svF.2 (.inr (.inr (.inr h3)))) (fun h3 => h3.1)
/-- the issuer's step -/
theorem SV.stepi {w w' : World} {B b q bi bb bv : Nat} {e k o li cn : Int} {v v1 v2 : Value} {zs z1 z2 : List (Int × Int)} {n m many n' m' many' : Int} (h : SV w B b q bi bb bv e k o li cn v v1 v2 zs z1 z2 n m many) (hi : IssAt w' bi bb n' m' many') (hk : Kept [bi, bb] w w') :
    SV w' B b q bi bb bv e k o li cn v v1 v2 zs z1 z2 n' m' many' ∧ SVst (svF b q bi bb bv v v1 v2) (svF b q bi bb bv v v1 v2) w w' := by
  refine ⟨{ h with obj := hk.obj h.obj (by simp; exact h.d1.2.1), que := h.que.kept hk (by simp; exact (h.d2 _ (mem_qS.2 (.inl rfl))).1) (fun g hg => by simp; exact (h.d2 _ (mem_qS.2 (.inr hg))).1), iss := hi, va := h.va.kept hk (fun x hx hm => by
    simp at hx
    rcases hx with rfl | rfl
    · exact h.d3.1 hm
    · exact h.d3.2 hm), lt := fun x hx => ⟨(h.lt x hx).1, Nat.lt_of_lt_of_le (h.lt x hx).2 hk.size⟩ }, hk.mono (fun x hx => by simp at hx; exact mem_svF.2 (.inr (.inr (.inl hx)))), fun x hx => .inl hx⟩
end Go.Proofs.YtlnghfmcofmkjaaGreatDoor
