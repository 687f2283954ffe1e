/- log: redo by contract. -/
import Derived.Test.YtjbpkmmpbhngbaaGreatDoorNumbers
import Derived.Test.YtjbpkmmpbhngbaaGreatDoorLinesLaw
namespace Go.Proofs.YtjbpkmmpbhngbaaGreatDoor
open Go.RowKit Go.Shelf
attribute [local go_sem] Oper.semAt_some

/-- what was spent behind records -/
def moreR : List (Int × Int) → List Rec → List (Int × Int)
  | zs, [] => zs
  | zs, r :: rs => moreR (spDrop zs r.now ++ [(r.n, r.u)]) rs
/-- none of the records is refused -/
def okR : List (Int × Int) → List Rec → Prop
  | _, [] => True
  | zs, r :: rs => spMoreE zs r.n r.u r.now = 0 ∧ okR (spDrop zs r.now ++ [(r.n, r.u)]) rs
theorem moreR_app (a b : List Rec) : ∀ zs, moreR zs (a ++ b) = moreR (moreR zs a) b := by
  induction a with
  | nil => intro zs; rfl
  | cons r a ih => intro zs; exact ih _
theorem okR_app (a b : List Rec) : ∀ zs, okR zs (a ++ b) ↔ okR zs a ∧ okR (moreR zs a) b := by
  induction a with
  | nil => intro zs; simp [okR, moreR]
  | cons r a ih => intro zs; simp [okR, moreR, ih, and_assoc]
theorem okR_rec (rs : List Rec) : ∀ zs, okR zs rs → ∀ r ∈ rs, r.ok := by
  induction rs with
  | nil => intro zs _ r hr; cases hr
  | cons r rs ih =>
    intro zs h x hx
    rcases List.mem_cons.1 hx with rfl | hx
    · exact sp_nums h.1
    · exact ih _ h.2 x hx
theorem okR_len (rs : List Rec) : ∀ zs, zs.length ≤ 16 → okR zs rs → (moreR zs rs).length ≤ 16 := by
  induction rs with
  | nil => intro zs h _; exact h
  | cons r rs ih =>
    intro zs h ho
    refine ih _ ?_ ho.2
    have h1 := spDrop_le zs r.now
    rcases spMore_cases zs r.n r.u r.now with ⟨_, _, _, _, _, _, h2⟩ | h2
    · simp; omega
    · exact absurd ho.1 h2
theorem okR_at {rs : List Rec} (h : okR [] rs) {k : Nat} {r : Rec} (hk : rs[k]? = some r) :
    spMoreE (moreR [] (rs.take k)) r.n r.u r.now = 0 ∧ moreR [] (rs.take (k + 1)) = spDrop (moreR [] (rs.take k)) r.now ++ [(r.n, r.u)] ∧ (moreR [] (rs.take k)).length ≤ 16 := by
  obtain ⟨hlt, hget⟩ := List.getElem?_eq_some_iff.1 hk
  have e1 : rs.take (k + 1) = rs.take k ++ [r] := by rw [List.take_succ_eq_append_getElem hlt, hget]
  have e2 : rs = rs.take (k + 1) ++ rs.drop (k + 1) := (List.take_append_drop _ _).symm
  rw [e2, e1] at h
  obtain ⟨h1, _⟩ := (okR_app _ _ _).1 h
  obtain ⟨h2, h3⟩ := (okR_app _ _ _).1 h1
  exact ⟨h3.1, by rw [e1, moreR_app]; rfl, okR_len _ _ (by simp) h2⟩

theorem keeps_below {W W' : World} (h : Below W.heap.size W W') : KeepsOthers W W' := ⟨h.size, fun k _ hk _ => (h.block k (Array.getElem?_eq_some_iff.1 hk).1).trans hk⟩
theorem obj_stands {W W' : World} {row : Option Nat} {bs B b : Nat} {t : TypeId} {cs : List Value} (h : ObjAt W b t cs) (hg : W.grownBy W' row) (hr : ∀ r, row = some r → r = bs ∨ (B ≤ r ∧ ∃ o : Obj, W.heap[r]? = some o ∧ o.isCells = false)) (hb : b ≠ bs) : ObjAt W' b t cs := by
  refine (hg.block b h.lt (fun e => ?_)).trans h
  rcases hr b e.symm with h1 | ⟨_, _, h2, h3⟩
  · exact hb h1
  · have h4 : W.heap[b]? = some (.cells cs.toArray t (0, 0)) := h
    rw [h4] at h2
    cases h2
    cases h3
theorem psl_stands {W W' : World} {row : Option Nat} {bs B : Nat} {v : Value} {zs : List (Int × Int)} (h : PSl W v zs) (hg : W.grownBy W' row) (hr : ∀ r, row = some r → r = bs ∨ (B ≤ r ∧ ∃ o : Obj, W.heap[r]? = some o ∧ o.isCells = false)) (hb : v.ownBlock ≠ some bs) : PSl W' v zs := by
  refine ⟨h.1, ?_⟩
  rcases h.2 with h1 | ⟨b, off, c, h1, h2, h3, h4⟩
  · exact .inl h1
  · cases hz : zs with
    | nil => exact .inl ⟨rfl, _, _, by rw [h1, hz]; rfl⟩
    | cons z zs' =>
      rw [← hz]
      have hp : 0 < zs.length := by rw [hz]; simp
      have hbr : W'.heap[b]? = W.heap[b]? := by
        refine hg.block b h3 (fun e => ?_)
        rcases hr b e.symm with h5 | ⟨_, o, h5, h6⟩
        · exact hb (by rw [h1, h5]; rfl)
        · obtain ⟨o2, h7, h8⟩ := cells_of_cell (h4 0 hp).1
          rw [h5] at h7
          cases h7
          rw [h6] at h8
          cases h8
      exact .inr ⟨b, off, c, h1, h2, Nat.lt_of_lt_of_le h3 hg.size, fun j hj => ⟨(World.cell?_of_block (w := W) hbr).trans (h4 j hj).1, (World.cell?_of_block (w := W) hbr).trans (h4 j hj).2⟩⟩
/-- what stands between two rounds of redo, k records read; B .. bs: the blocks of the call's own -/
structure RedoAt (w : World) (B r1 r2 al mn bs : Nat) (rs : List Rec) (k : Nat) (v : Value) (W : World) : Prop where
  o0 : ObjAt W B 31 [.slice none 0 0]
  o1 : ObjAt W r1 3 [.int .i64 0]
  o2 : ObjAt W r2 27 [.nilIface]
  oa : ObjAt W al 31 [v]
  om : ObjAt W mn 3 [.int .i64 (k : Int)]
  ps : PSl W v (moreR [] (rs.take k))
  own : ∀ g, v.ownBlock = some g → bs < g ∧ g < W.heap.size
  bel : Below B w W
  sz : bs < W.heap.size
/-- the blocks lie one behind the other -/
def RedoO (w : World) (B r1 r2 al mn bs : Nat) : Prop := B = w.heap.size ∧ r1 = B + 1 ∧ r2 = B + 2 ∧ al = B + 3 ∧ mn = B + 4 ∧ bs = B + 5
theorem redo_stands {w : World} {B r1 r2 al mn bs C : Nat} (ho : RedoO w B r1 r2 al mn bs) (hC : bs < C) (rs : List Rec) : StandsLn C bs (fun k W => ∃ v, RedoAt w B r1 r2 al mn bs rs k v W) := by
  rintro k W W' row ⟨v, h⟩ hg hr
  obtain ⟨h0, h1, h2, h3, h4, h5⟩ := ho
  have hs := hg.size
  exact ⟨v, obj_stands h.o0 hg hr (by omega), obj_stands h.o1 hg hr (by omega), obj_stands h.o2 hg hr (by omega), obj_stands h.oa hg hr (by omega), obj_stands h.om hg hr (by omega),
    psl_stands h.ps hg hr (fun e => by have := h.own _ e; omega), fun g hg' => by have := h.own g hg'; omega,
    h.bel.grown hg (Nat.le_trans (by omega) h.bel.size) (fun r e => by rcases hr r e with rfl | ⟨h6, _⟩ <;> omega), by have := h.sz; omega⟩
set_option maxRecDepth 100000 in
set_option maxHeartbeats 4000000 in
theorem lgRedo {rs : List Rec} (hok : okR [] rs) (hlen : rs.length ≤ 30) (b : ByteArray) (hb : b.data.toList = catR rs) (hsz : b.size ≤ 1000000) (w : World) (htab : SpaW w) :
    Calls Tryz.prog 27 #[.string b] w fun e w' => ∃ v, e = .returned (.tuple #[v, .int .i64 (rs.length : Int), .nilIface]) ∧ PSl w' v (moreR [] rs) ∧ vNew w w' v ∧ Below w.heap.size w w' := by
  refine (callsIn_wide (n := 3)).1 ?_
  refine callsIn_of_wp_marks Tryz.func27 rfl trivial ?_ rfl
  simp only [Tryz.ntmps27, List.size_toArray, List.length_cons, List.length_nil, Nat.reduceAdd, Nat.reduceSub, Array.replicate_succ, Array.replicate_zero, List.push_toArray, List.append_toArray, List.nil_append, List.cons_append]
  have LN := hide (fun W => linesNew b W)
  gi_wp2_with fail
  refine ⟨trivial, ?_⟩
  have hn1 : 1 ≤ 3 := by omega
  gi_at_call 35
  refine (callsIn_wide.2 (LN.out _)).mono ?_
  rintro e w1 ⟨rfl, rfl⟩
  gi_wp2
  obtain ⟨bs, h5⟩ : ∃ x, x = w.heap.size + 1 + 1 + 1 + 1 + 1 := ⟨_, rfl⟩
  obtain ⟨mn, h4⟩ : ∃ x, x = w.heap.size + 1 + 1 + 1 + 1 := ⟨_, rfl⟩
  obtain ⟨al, h3⟩ : ∃ x, x = w.heap.size + 1 + 1 + 1 := ⟨_, rfl⟩
  obtain ⟨r2, h2⟩ : ∃ x, x = w.heap.size + 1 + 1 := ⟨_, rfl⟩
  obtain ⟨r1, h1⟩ : ∃ x, x = w.heap.size + 1 := ⟨_, rfl⟩
  obtain ⟨W0, hW0⟩ : ∃ W0, W0 = ((((((w.alloc (.cells #[.slice none 0 0] 31)).alloc (.cells #[.int .i64 0] 3)).alloc (.cells #[.nilIface] 27)).alloc (.cells #[.slice none 0 0] 31)).alloc (.cells #[.int .i64 0] 3)).alloc (.cells #[.string b] 9)) := ⟨_, rfl⟩
  rw [← h5, ← h4, ← h3, ← h2, ← h1, ← hW0]
  obtain ⟨B, hB⟩ : ∃ B, B = w.heap.size := ⟨_, rfl⟩
  rw [← hB]
  have hRO : RedoO w B r1 r2 al mn bs := ⟨hB, by omega, by omega, by omega, by omega, by omega⟩
  have hz0 : W0.heap.size = bs + 1 := by rw [hW0]; simp; omega
  have hbs0 : ObjAt W0 bs 9 [.string b] := by rw [hW0]; exact objNew (by simp; omega)
  have hR0 : RedoAt w B r1 r2 al mn bs rs 0 (.slice none 0 0) W0 := by
    rw [hW0]
    refine ⟨(((((objNew hB).alloc _).alloc _).alloc _).alloc _).alloc _, ((((objNew (by simp; omega)).alloc _).alloc _).alloc _).alloc _, (((objNew (by simp; omega)).alloc _).alloc _).alloc _, ((objNew (by simp; omega)).alloc _).alloc _, (objNew (by simp; omega)).alloc _,
      ⟨by simp [moreR], .inl ⟨by simp [moreR], none, 0, rfl⟩⟩, fun g hg => by simp [Value.ownBlock] at hg, ?_, by rw [← hW0]; omega⟩
    exact ((((((Below.refl _ _).alloc (by omega) _).alloc (by simp; omega) _).alloc (by simp; omega) _).alloc (by simp; omega) _).alloc (by simp; omega) _).alloc (by simp; omega) _
  have hall := okR_rec rs [] hok
  have hll : (linesL b.data.toList).length = rs.length := by rw [hb, lines_cat rs hall]; simp
  have hCC : bs < W0.heap.size := by omega
  have hsp : ∀ k v W, RedoAt w B r1 r2 al mn bs rs k v W → SpaW W := fun k v W h => htab.below h.bel (by have := htab.lt; omega)
  have HRO := hide hRO
  have HB := hide hb
  have HOK := hide hok
  have HLL := hide hll
  have HSP := hide hsp
  have HALL := hide hall
  clear h1 h2 h3 h4 h5 hB hW0 hz0 hRO hb hok hll hsp htab hall LN
  refine wp_lines (n := 3) (by omega) (by unfold maxLen; omega) rfl hbs0 (fun k W => ∃ v, RedoAt w B r1 r2 al mn bs rs k v W) (redo_stands HRO.out hCC rs) ⟨_, hR0⟩
    (fun x => { tmps := #[.string b, undef, .pointer (some ⟨B, 0, none⟩), .pointer (some ⟨r1, 0, none⟩), .pointer (some ⟨r2, 0, none⟩), .pointer (some ⟨al, 0, none⟩), .pointer (some ⟨mn, 0, none⟩), .string x, undef, undef, .string b,
          .func (.func 63) #[] #[.pointer (some ⟨bs, 0, none⟩)], .string x, undef, undef, undef, undef, undef, undef, undef, undef, undef, undef, undef, undef, undef, undef,
          undef, undef, undef, undef, undef, undef, undef, undef, undef, undef, undef, undef], defers := [] }) ?assign ?body ?done
  case assign =>
    intro l x W K hK
    gi_wp2
    exact hK
  case body =>
    rintro l k x W hl hx ⟨v, hR⟩
    obtain ⟨r, hrk, hrx⟩ : ∃ r, rs[k]? = some r ∧ r.row = x.data.toList := by
      rw [HB.out, lines_cat rs HALL.out, List.getElem?_map] at hx
      cases hk : rs[k]? with
      | none => rw [hk] at hx; cases hx
      | some r => rw [hk] at hx; exact ⟨r, rfl, by simpa using hx⟩
    obtain ⟨m1, m2, m3⟩ := okR_at HOK.out hrk
    have hk30 : k < 30 := by have := (List.getElem?_eq_some_iff.1 hrk).1; omega
    have NM := hide (lgNumbers (HALL.out r (List.mem_of_getElem? hrk)) x hrx.symm W (HSP.out _ _ _ hR))
    have hMO := fun W (hv : PSl W v (moreR [] (rs.take k))) => spMore_ok m1 v W hv
    have hnl : (moreR [] (rs.take (k + 1))).length ≤ 17 := by rw [m2]; have := spDrop_le (moreR [] (rs.take k)) r.now; simp; omega
    rw [← m2] at hMO
    obtain ⟨ns, hns⟩ : ∃ ns, ns = moreR [] (rs.take (k + 1)) := ⟨_, rfl⟩
    rw [← hns] at hMO hnl
    have NS := hide hns
    have MO := hide hMO
    have HNL := hide hnl
    have HR := hide hR
    clear hx hrk hrx m1 m2 m3 hR hbs0 hR0 hns hMO hnl
    gi_wp2_with fail
    refine ⟨trivial, ?_⟩
    have hn2 : 1 ≤ 3 - 1 - 1 := by omega
    gi_at_call 57
    refine (CallsIn.inRound l (callsIn_wide.2 NM.out)).mono ?_
    rintro e w2 ⟨rfl, hb2⟩
    have HB2 := hide hb2
    have oa2 := HR.out.oa.below hb2
    have om2 := HR.out.om.below hb2
    have c2 := oa2.cell (i := 0) rfl
    have OA2 := hide oa2
    have OM2 := hide om2
    have hal := oa2.lt
    have hmn := om2.lt
    clear hb2 oa2 om2
    gi_wp2_with fail
    obtain ⟨W3, hW3⟩ : ∃ W3, W3 = w2.alloc (.cells #[.int .i64 r.n, .int .i64 r.u, .int .i64 r.now] 37) := ⟨_, rfl⟩
    have hb3 : Below w2.heap.size w2 W3 := by rw [hW3]; exact (Below.refl _ _).alloc (Nat.le_refl _) _
    rw [← hW3]
    refine ⟨trivial, ?_⟩
    gi_at_call 23
    refine (CallsIn.inRound l (callsIn_wide.2 (MO.out W3 ((HR.out.ps.below HB2.out).below hb3)))).mono ?_
    rintro e W4 ⟨v', rfl, hown, hb4⟩
    have hb24 : Below w2.heap.size w2 W4 := hb3.trans (hb4.mono hb3.size)
    have oa4 := OA2.out.below hb24
    have om4 := OM2.out.below hb24
    have ca := oa4.cell (i := 0) rfl
    have fa := oa4.free 0
    have cm := om4.cell (i := 0) rfl
    have fm := om4.free 0
    have HB24 := hide hb24
    have hps : PSl W4 v' ns := own_psl hown (by have := HNL.out; omega)
    have hvn : ∀ g, v'.ownBlock = some g → W3.heap.size < g ∧ g < W4.heap.size := fun g hg => by
      rcases hown.2 with ⟨rfl, _⟩ | ⟨g', cap, cur, rfl, h3, h4, _⟩
      · simp [Value.ownBlock] at hg
      · simp [Value.ownBlock] at hg
        subst hg
        exact ⟨h3, lt_of_block h4⟩
    have HPS := hide hps
    have HVN := hide hvn
    obtain ⟨a', c', hv'⟩ := own_sl hown
    have hwl := HR.out.sz
    have hne : al ≠ mn := by obtain ⟨_, _, _, h3, h4, _⟩ := HRO.out; omega
    have OA4 := hide oa4
    have OM4 := hide om4
    have hz24 := hb24.size
    have hz3 := hb3.size
    have hz2 := HB2.out.size
    have hKO : KeepsOthers W W4 := (keeps_below HB2.out).trans (keeps_below hb24)
    have HKO := hide hKO
    have hKB : Below W.heap.size W W4 := HB2.out.trans (hb24.mono HB2.out.size)
    have HKB := hide hKB
    clear hW3 hb3 hb4 hown hps hvn oa4 om4 hb24 c2 hal hmn OA2 OM2 hKO hKB
    subst hv'
    gi_wp2
    obtain ⟨e0, e1, e2, e3, e4, e5⟩ := HRO.out
    have HF : Kept [al, mn] W ((W4.setCell ⟨al, 0, none⟩ (.slice a' ns.length c')).setCell ⟨mn, 0, none⟩ (.int .i64 ((k : Int) + 1))) :=
      ((Kept.of_below HKB.out _).setCell (.inl (by simp)) _).setCell (.inl (by simp)) _
    have hbn : bs ∉ [al, mn] := by simp; omega
    refine ⟨((HKO.out.trans (KeepsOthers.setCell _ _ _)).trans (KeepsOthers.setCell _ _ _)).from _, HF.block bs hwl hbn, _, HF.obj HR.out.o0 (by simp; omega), HF.obj HR.out.o1 (by simp; omega), HF.obj HR.out.o2 (by simp; omega), (OA4.out.set 0 _).setOther hne _, (OM4.out.setOther (Ne.symm hne) _).set 0 _, ?_, ?_, ?_, ?_⟩
    · rw [← NS.out]
      refine PSl.kept HPS.out (((Kept.refl [al, mn] _).setCell (.inl (by simp)) _).setCell (.inl (by simp)) _) (fun x hx he => ?_)
      have := HVN.out x he
      simp at hx
      omega
    · intro g hg
      have := HVN.out g hg
      simp
      omega
    · exact ((HR.out.bel.trans (HKB.out.mono (by have := HR.out.bel.size; omega))).setCell (p := ⟨al, 0, none⟩) (by simp; omega) _).setCell (p := ⟨mn, 0, none⟩) (by simp; omega) _
    · simp; omega
  case done =>
    rintro D W hD ⟨v, hR⟩ hK
    rw [HLL.out] at hR
    have HR := hide hR
    have HK := hide hK
    have c0 := hR.oa.cell (i := 0) rfl
    have c1 := hR.om.cell (i := 0) rfl
    have p0 := hR.o0.cell (i := 0) rfl
    have p1 := hR.o1.cell (i := 0) rfl
    have p2 := hR.o2.cell (i := 0) rfl
    have f0 := hR.o0.free 0
    have f1 := hR.o1.free 0
    have f2 := hR.o2.free 0
    obtain ⟨a', n', c', rfl⟩ : ∃ a n c, v = .slice a n c := by
      rcases hR.ps.2 with ⟨_, a, c, h⟩ | ⟨g, off, c, h, _⟩
      · exact ⟨_, _, _, h⟩
      · exact ⟨_, _, _, h⟩
    obtain ⟨e0, e1, e2, e3, e4, e5⟩ := HRO.out
    have hn01 : B ≠ r1 := by omega
    have hn02 : B ≠ r2 := by omega
    have hn12 : r1 ≠ r2 := by omega
    have hn0a : B ≠ al := by omega
    have hn0m : B ≠ mn := by omega
    have hn1a : r1 ≠ al := by omega
    have hn1m : r1 ≠ mn := by omega
    have hn2a : r2 ≠ al := by omega
    have hn2m : r2 ≠ mn := by omega
    have hna0 : al ≠ B := by omega
    have hnm0 : mn ≠ B := by omega
    have hn10 : r1 ≠ B := by omega
    have hn20 : r2 ≠ B := by omega
    have hn21 : r2 ≠ r1 := by omega
    obtain ⟨W9, hW9⟩ : ∃ W9, W9 = (((W.setCell ⟨B, 0, none⟩ (.slice a' n' c')).setCell ⟨r1, 0, none⟩ (.int .i64 (rs.length : Int))).setCell ⟨r2, 0, none⟩ .nilIface).drew := ⟨_, rfl⟩
    have hF : Kept [B, r1, r2] W W9 := by rw [hW9]; exact ((((Kept.refl _ _).setCell (.inl (by simp)) _).setCell (.inl (by simp)) _).setCell (.inl (by simp)) _).drew
    have hB9 : Below B w W9 := by rw [hW9]; exact (((hR.bel.setCell (p := ⟨B, 0, none⟩) (by simp) _).setCell (p := ⟨r1, 0, none⟩) (by simp; omega) _).setCell (p := ⟨r2, 0, none⟩) (by simp; omega) _).drew
    have hK9 : W9.heap[D]? = some (.deferred (some [])) := by rw [hW9]; exact (((KeepsOthers.setCell _ _ _).trans (KeepsOthers.setCell _ _ _)).trans (KeepsOthers.setCell _ _ _)).same D _ hK rfl
    have o0 : ObjAt W9 B 31 [.slice a' n' c'] := by rw [hW9]; exact (((hR.o0.set 0 _).setOther hn01 _).setOther hn02 _).drew
    have o1 : ObjAt W9 r1 3 [.int .i64 (rs.length : Int)] := by rw [hW9]; exact (((hR.o1.setOther hn10 _).set 0 _).setOther hn12 _).drew
    have o2 : ObjAt W9 r2 27 [.nilIface] := by rw [hW9]; exact (((hR.o2.setOther hn20 _).setOther hn21 _).set 0 _).drew
    have hDB : bs < D := by omega
    have ps9 : PSl W9 (.slice a' n' c') (moreR [] rs) := by
      have h := hR.ps.kept hF (fun x hx he => by have := hR.own x he; simp at hx; omega)
      rwa [List.take_of_length_le (Nat.le_refl _)] at h
    have own9 : ∀ g, (Value.slice a' n' c').ownBlock = some g → bs < g ∧ g < W9.heap.size := fun g hg => by have := hR.own g hg; have := hF.size; omega
    have hgr := grownBy_putObj' W9 D (.deferred none)
    have hrow : ∀ r, some D = some r → r = D ∨ (D ≤ r ∧ ∃ o : Obj, W9.heap[r]? = some o ∧ o.isCells = false) := fun r e => .inl (Option.some.inj e).symm
    have hrw2 : ∀ r, some D = some r → r = bs ∨ (D ≤ r ∧ ∃ o : Obj, W9.heap[r]? = some o ∧ o.isCells = false) := fun r e => by cases e; exact .inr ⟨Nat.le_refl _, _, hK9, rfl⟩
    have y0 := (obj_stands o0 hgr hrow (by omega)).cell (i := 0) rfl
    have y1 := (obj_stands o1 hgr hrow (by omega)).cell (i := 0) rfl
    have y2 := (obj_stands o2 hgr hrow (by omega)).cell (i := 0) rfl
    have ps10 : PSl (W9.putObj D (.deferred none)) (.slice a' n' c') (moreR [] rs) := psl_stands ps9 hgr hrw2 (fun e => by have := own9 _ e; omega)
    have hb10 : Below w.heap.size w (W9.putObj D (.deferred none)) := by rw [← e0]; exact hB9.grown hgr (Nat.le_trans (by omega) hB9.size) (fun k e => by cases e; omega)
    have hvn : vNew w (W9.putObj D (.deferred none)) (.slice a' n' c') := by
      cases hob : (Value.slice a' n' c').ownBlock with
      | none => exact .inl hob
      | some g => have := own9 g hob; exact .inr ⟨g, hob, by omega, by simp; omega⟩
    have HK9 := hide hK9
    have HY0 := hide y0
    have HY1 := hide y1
    have HY2 := hide y2
    have HE := hide (⟨ps10, hvn, hb10⟩ : PSl (W9.putObj D (.deferred none)) (.slice a' n' c') (moreR [] rs) ∧ vNew w (W9.putObj D (.deferred none)) (.slice a' n' c') ∧ Below w.heap.size w (W9.putObj D (.deferred none)))
    clear hR hK e0 e1 e2 e3 e4 e5 hR0 hbs0 hF hB9 hK9 o0 o1 o2 ps9 own9 hgr hrow hrw2 y0 y1 y2 ps10 hb10 hvn
    gi_wp2
    gi_region
    rw [← hW9]
    gi_wp2
    refine ⟨by simp, .inl ⟨_, _, rfl, run_takeDeferred HK9.out, ?_⟩⟩
    exact ⟨.tuple #[.slice a' n' c', .int .i64 (rs.length : Int), .nilIface], by simp [results, Tryz.f27, go_sem, HY0.out, HY1.out, HY2.out], _, rfl, HE.out⟩
end Go.Proofs.YtjbpkmmpbhngbaaGreatDoor
