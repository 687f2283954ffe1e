/- foldref2.Server: Line; ticket, pull, turn, crash, waiting. -/
import Derived.Test.YtlnghfmcofmkjaaGreatDoorRefLine1
namespace Go.Proofs.YtlnghfmcofmkjaaGreatDoor
open Go.RowKit

theorem GoD.at2 {f : FuncId} {args : Array Value} {r : Nat} {A C : Vals} {res : Value} (h : GoD f args r A C res) {W W1 : World} {G : List Nat} (hR : RefAt W r 50 A G) (hb : Below W.heap.size W W1) :
    Calls Tryz.prog f args W1 fun x w' => x = .returned res ∧ ∃ G', RefAt w' r 50 C G' ∧ SVst G G' W1 w' := h W1 G (hR.bel hb)
theorem RefAt.ring {w : World} {r : Nat} {li : Int} {C : Vals} {G : List Nat} (h : RefAt w r li C G) : (w.cell? ⟨r, 0, none⟩ = some (.int .i64 C.e) ∧ w.cell? ⟨r, 1, none⟩ = some (.int .i64 C.k) ∧ w.cell? ⟨r, 2, none⟩ = some (.int .i64 C.o)) ∧ (w.frozen? ⟨r, 0, none⟩ = false ∧ w.frozen? ⟨r, 1, none⟩ = false ∧ w.frozen? ⟨r, 2, none⟩ = false) := by
  obtain ⟨v, vn, vk, h1, _⟩ := h
  exact ⟨⟨h1.q.1.cell (i := 0) rfl, h1.q.1.cell (i := 1) rfl, h1.q.1.cell (i := 2) rfl⟩, h1.q.1.free 0, h1.q.1.free 1, h1.q.1.free 2⟩
theorem RefAt.que {w : World} {r : Nat} {li : Int} {C : Vals} {G : List Nat} (h : RefAt w r li C G) : ∃ a c, w.cell? ⟨r, 4, none⟩ = some (.slice a C.zs.length c) := by
  obtain ⟨v, vn, vk, h1, _⟩ := h
  obtain ⟨a, c, rfl⟩ := qrow_form h1.q.2.1
  exact ⟨a, c, h1.q.1.cell (i := 4) rfl⟩
theorem RefAt.que1 {w : World} {r : Nat} {li : Int} {C : Vals} {G : List Nat} (h : RefAt w r li C G) {x : Int × Int} {l : List (Int × Int)} (hz : C.zs = x :: l) : ∃ g o c, w.cell? ⟨r, 4, none⟩ = some (.slice (some ⟨g, o, none⟩) (l.length + 1) c) ∧ w.cell? ⟨g, o, none⟩ = some (.int .i64 x.1) ∧ w.cell? ⟨g, o + 1, none⟩ = some (.int .i64 x.2) := by
  obtain ⟨v, vn, vk, h1, _⟩ := h
  obtain ⟨_, ⟨h0, _⟩ | ⟨g, off, cap, hv, h2, h3, h4, h5, h6⟩⟩ := h1.q.2.1
  · rw [hz] at h0; cases h0
  · have hc : w.cell? ⟨r, 4, none⟩ = some v := h1.q.1.cell (i := 4) rfl
    have hl : C.zs.length = l.length + 1 := by rw [hz]; rfl
    obtain ⟨p0, p1⟩ := h5 0 (by omega)
    rw [hz] at p0 p1
    exact ⟨g, off, cap, by rw [hc, hv, hl], by simpa using p0, by simpa using p1⟩
theorem refOut {r : Nat} {A : Vals} {x : Int × Int} {l : List (Int × Int)} (hz : A.zs = x :: l) : GoD 23 #[.pointer (some ⟨r, 4, none⟩), .int .i64 0] r A { A with zs := l } (.tuple #[]) := by
  rintro W G ⟨v, vn, vk, h1, rfl⟩
  rw [hz] at h1
  refine (rsOut (i := 0) (ns := l) (by simp) (by simp) r v W h1.q).mono ?_
  rintro y w' ⟨rfl, v', hq, hr', hk⟩
  obtain ⟨a1, a2⟩ := h1.out hq hr' hk
  exact ⟨rfl, _, ⟨v', vn, vk, a1, rfl⟩, a2⟩
theorem RefAt.turn {W : World} {r : Nat} {A : Vals} {G : List Nat} (h : RefAt W r 50 A G) (t1 t2 t3 : Int) :
    RefAt (((W.setCell ⟨r, 0, none⟩ (.int .i64 t1)).setCell ⟨r, 1, none⟩ (.int .i64 t2)).setCell ⟨r, 2, none⟩ (.int .i64 t3)) r 50 { A with e := t1, k := t2, o := t3 } G ∧ SVst G G W (((W.setCell ⟨r, 0, none⟩ (.int .i64 t1)).setCell ⟨r, 1, none⟩ (.int .i64 t2)).setCell ⟨r, 2, none⟩ (.int .i64 t3)) := by
  obtain ⟨v, vn, vk, k2, rfl⟩ := h
  have hk : Kept [r] W (((W.setCell ⟨r, 0, none⟩ (.int .i64 t1)).setCell ⟨r, 1, none⟩ (.int .i64 t2)).setCell ⟨r, 2, none⟩ (.int .i64 t3)) := (((Kept.refl _ _).setCell (.inl (by simp)) _).setCell (.inl (by simp)) _).setCell (.inl (by simp)) _
  have hs := k2.own (e' := t1) (k' := t2) (o' := t3) (n' := A.n) (m' := A.m) (cn' := A.cn) (((k2.q.1.set 0 _).set 1 _).set 2 _) hk (.inl ⟨rfl, rfl⟩) (.inl ⟨rfl, rfl⟩) ⟨rfl, rfl⟩
  exact ⟨⟨v, vn, vk, hs.1, rfl⟩, hs.2⟩
set_option maxRecDepth 100000 in
set_option maxHeartbeats 8000000 in
theorem refLine_ticket {r : Nat} {A : Vals} {t : Nat} (hI : RI A t) (ht : t < 4000) {s : ByteArray} (hs : s.size ≤ 100000) {xs : List (List UInt8)} (hcut : cutL 32 s.data.toList = [116, 105, 99, 107, 101, 116] :: xs) (hm : xs.length = 1) (W : World) (G : List Nat) (hR : RefAt W r 50 A G) :
    Calls Tryz.prog 9 #[.pointer (some ⟨r, 0, none⟩), .string s] W (RefPost r (lineR A s.data.toList).2 G W (lineR A s.data.toList).1) := by
  have hbad : numsL xs = none → lineR A s.data.toList = (badW, A) := fun h => line_none hcut h
  have hok : ∀ u0 : Nat, numsL xs = some [u0] → lineR A s.data.toList = ticketR A u0 := fun u0 h => by rw [line_ok hcut (by rw [hm]; rfl) h]; rfl
  have SP := hide (fun W1 => refCut 32 s (by omega) W1)
  have HC := hide hcut
  obtain ⟨i0, hi, hz0, hz1, hz2⟩ := info_parts Tryz.infoInt
  have Hi0 := hide hi
  have Hz0 := hide hz0
  have Hz1 := hide hz1
  have Hz2 := hide hz2
  have HR := hide hR
  have HGL := hide hR.lt
  have HI := hide hI
  have HM := hide hm
  have HSS := hide hs
  generalize lineR A s.data.toList = L at hbad hok ⊢
  have HBAD := hide hbad
  have HOK := hide hok
  clear hbad hok hI hR hm hcut hi hz0 hz1 hz2
  go_enter Tryz.func9, Tryz.ntmps9
  go_wp2_with fail
  refine (SP.out _).mono ?_
  rintro e w1 ⟨v, ps, hps, rfl, hown, hb1⟩
  rw [HC.out] at hps
  obtain ⟨x, qs, rfl, hx, hq⟩ := cut_parts hps
  have hql : qs.length = 1 := by have h1 := HM.out; rw [← hq] at h1; simpa [wordsL] using h1
  have HY : Hid (∀ j, j < 2 → w1.cell? ⟨(rowBlk v), j, none⟩ = some (.string ((x :: qs).getD j ByteArray.empty)) ∧ ((x :: qs).getD j ByteArray.empty).size ≤ 100000) := hide (fun j hj => ⟨row_cell hown (by simp [hql]; omega), cut_size hps HC.out HSS.out rfl j (by simp [hql]; omega)⟩)
  have HTN : Hid (∀ j, 1 ≤ j → j < 2 → xs.take j = xs.take (j - 1) ++ [((x :: qs).getD j ByteArray.empty).data.toList]) := hide (fun j h1 h2 => take_next hq h1 (by omega))
  obtain ⟨g, c, hv, hgb, hgl, hnc, hcm⟩ := own_form hown (by simp)
  have eg : rowBlk v = g := by rw [hv]; rfl
  have hl : (x :: qs).length = 2 := by simp [hql]
  rw [hl] at hv
  rw [eg] at HY
  subst hv
  have q0 : w1.cell? ⟨g, 0, none⟩ = some (.string x) := (HY.out 0 (by omega)).1
  have q0r : Hid (∀ X, Below w1.heap.size w1 X → X.cell? ⟨g, 0, none⟩ = some (.string x)) := hide (fun X hX => (hX.cell (p := ⟨g, 0, none⟩) hgl).trans q0)
  have HB1 := hide hb1
  have HGG := hide hgl
  have HXE := hide hx
  obtain ⟨ys, hys⟩ : ∃ ys, ys = x :: qs := ⟨_, rfl⟩
  rw [← hys] at HY HTN
  clear hps hown hb1 hgb hgl hnc hcm eg hl hql hq hys
  subst hx
  go_wp2_with fail
  clear q0
  go_loopw [7, 8] (fun nv i wr => ∃ (j : Nat) (us : List Nat), i = .int .i64 (j : Int) ∧ 1 ≤ j ∧ j ≤ 2 ∧ Hid (numsL (xs.take (j - 1)) = some us) ∧ us.length ≤ j ∧ wr.ownsRow w1.heap.size 3 1 nv us.length (us.map (fun u : Nat => Value.int .i64 (u : Int))) ∧ Below w1.heap.size w1 wr) (fun _ i _ => 200 - (intOf i).toNat)
  case atStart => exact ⟨1, [], rfl, by omega, by omega, hide rfl, by simp, World.ownsRow_nil _ _ _ _, Below.refl _ _⟩
  case round =>
    obtain ⟨j, us, rfl, hj1, hjn, HU, hul, hown, hbw⟩ := hrel
    have HO := hide hown
    have HBW := hide hbw
    have hyr : w1.heap.size ≤ wr.heap.size := hbw.size
    by_cases hlt : j < 2
    · obtain ⟨av, cv, rfl⟩ := own_slS hown
      have qj : wr.cell? ⟨g, j, none⟩ = some (.string (ys.getD j ByteArray.empty)) := (hbw.cell (p := ⟨g, j, none⟩) HGG.out).trans (HY.out j hlt).1
      have HS := hide (HTN.out j hj1 hlt)
      have NO := hide (fun W1 => refNumber (ys.getD j ByteArray.empty) (by have := (HY.out j hlt).2; omega) W1)
      generalize ys.getD j ByteArray.empty = y at qj HS NO
      clear hown hbw
      go_wp2_with fail
      refine (NO.out _).mono ?_
      rintro e w2 ⟨⟨u, hu, rfl⟩ | ⟨hu, rfl⟩, rfl⟩
      · have HN := hide hu
        clear hu
        go_wp2_with (first | (at_builtin; refine wpList_append_own _ rfl _ _ 50 rfl (w1.heap.size) 3 i0 _ 1 8 Tryz.underlying50 Hi0.out Hz0.out Hz1.out Hz2.out rfl (by decide) _ _ _ rfl (HO.out.alloc _) ⟨wr.heap.size, 0, none⟩ 1 1 [.int .i64 (u : Int)] rfl rfl ?c1 ?c2 ?c3 ?c4 ?c5 ?_))
        case c1 =>
          intro j x hj
          cases j with
          | zero => simp at hj; subst hj; simp [Addr.add]
          | succ j => simp at hj
        case c2 => intro x hu; simp at hu; subst hu; rfl
        case c3 => unfold maxLen; omega
        case c4 => omega
        case c5 => first | omega | (simp; omega)
        intro v2 w40 hown2 hgrow _
        have hg0 : ∀ q, (Value.slice av us.length cv).ownBlock = some q → w1.heap.size ≤ q := own_blk HO.out
        have HB40 := hide (grown_below (HBW.out.alloc hyr _) hgrow hg0 (by simp; omega))
        have HO3 : Hid (w40.ownsRow w1.heap.size 3 1 v2 (us ++ [u]).length ((us ++ [u]).map (fun u : Nat => Value.int .i64 (u : Int)))) := hide (by simpa using hown2)
        clear hown2 hgrow hg0
        go_wp2
        go_roundw
        case rel => exact ⟨j + 1, us ++ [u], by go_num, by omega, by omega, hide (by rw [Nat.add_sub_cancel, HS.out, numsL_snoc, HU.out, Option.bind_some, HN.out]; rfl), by simp; omega, HO3.out, HB40.out⟩
        case measure => simp [intOf]; omega
      · have HN := hide hu
        clear hu
        go_wp2
        go_ret
        have hno : numsL xs = none := by
          cases ha : numsL xs with
          | none => rfl
          | some vs =>
            exfalso
            obtain ⟨zs, hx⟩ := numsL_take ha j
            rw [HS.out, numsL_snoc, HU.out, Option.bind_some, HN.out] at hx
            cases hx
        have hbb := HB1.out.trans (HBW.out.mono HB1.out.size)
        rw [HBAD.out hno]
        exact RefPost.mk rfl (HR.out.bel hbb) (SVst.of_below hbb) (Below.refl _ _)
    · obtain rfl : j = 2 := by omega
      have hfin : numsL xs = some us := by
        have := HU.out
        rwa [List.take_of_length_le (by rw [HM.out]; omega)] at this
      have hBr : Below W.heap.size W wr := HB1.out.trans (hbw.mono HB1.out.size)
      have HBr := hide hBr
      have hRr := HR.out.bel hBr
      have q0f := q0r.out _ hbw
      obtain ⟨u0, rfl⟩ := len1 ((numsL_len _ _ hfin).trans HM.out)
      obtain ⟨av, cv, rfl, hcap, h0 | ⟨gn, rfl, hgl, hcn⟩⟩ := nums_own hown
      · cases h0
      have c0 : wr.cell? ⟨gn, 0, none⟩ = some (.int .i64 (u0 : Int)) := hcn 0 (by simp)
      have hgn : gn ∉ G := fun hm => by have h1 := own_blk hown gn rfl; have h2 := HGL.out _ hm; have h3 := HB1.out.size; omega
      have e2 : [u0].length = 1 := rfl
      have hL := hide (HOK.out u0 hfin)
      rw [e2] at hcap ⊢
      clear e2 hfin
      obtain ⟨_, y0, y1, y2, y3, f, htx, hf, hk, hg, _⟩ := rt_ticket (B := 0) (b := 0) (r := r) HI.out ht (u0 : Int)
      have GG := hide (fun W1 (hb : Below wr.heap.size wr W1) => hg.at hRr hb)
      have HT := hide htx
      have HK := hide hk
      by_cases h0 : f = 0
      · subst h0
        clear hg hRr htx hbw hown hcn hgn hBr hf hk
        go_wp2_with fail
        refine (GG.out _ (by go_grown)).mono ?_
        rintro e w2 ⟨rfl, ⟨G', hR2, hs2⟩, hz2⟩
        have HR2 := hide hR2
        have HS2 := hide hs2
        clear hR2 hs2
        go_wp2_with fail
        obtain ⟨W3, hW3⟩ : ∃ W3, W3 = (w2.alloc (.cells #[.int .i64 y0, .int .i64 y1, .int .i64 y2, .int .i64 y3] 67)).alloc (.cells #[.int .i64 y0, .int .i64 y1, .int .i64 y2, .int .i64 y3] 3) := ⟨_, rfl⟩
        have ho3 : ObjAt W3 (w2.heap.size + 1) 3 [.int .i64 y0, .int .i64 y1, .int .i64 y2, .int .i64 y3] := by rw [hW3]; exact objNew (by simp)
        have hb3 : Below w2.heap.size w2 W3 := by rw [hW3]; exact ((Below.refl _ _).alloc (Nat.le_refl _) _).alloc (by simp) _
        rw [← hW3]
        refine (refRow4 HK.out _ _ W3 (ho3.cell (i := 0) rfl) (ho3.cell (i := 1) rfl) (ho3.cell (i := 2) rfl) (ho3.cell (i := 3) rfl)).mono ?_
        rintro e w4 ⟨rfl, hw4⟩
        rw [hw4] at hb3
        have HB4 := hide hb3
        clear hW3 hb3 ho3 hw4
        go_wp2
        go_ret
        rw [hL.out]
        exact RefPost.out HBr.out (RefPost.mk (by rw [HT.out]; rfl) HR2.out HS2.out HB4.out) (Below.refl _ _)
      · have hne : (f != 0) = true := bne_iff_ne.2 h0
        have H0 := hide h0
        have NM := hide (fun W => refName hf.1 hf.2 W)
        clear hg hRr htx hbw hown hcn hgn hBr hf hk h0
        go_wp2_with fail
        refine (GG.out _ (by go_grown)).mono ?_
        rintro e w2 ⟨rfl, ⟨G', hR2, hs2⟩, hz2⟩
        have HR2 := hide hR2
        have HS2 := hide hs2
        clear hR2 hs2
        go_wp2_with fail
        refine (NM.out _).mono ?_
        rintro e w3 ⟨rfl, hb3⟩
        have HB3 := hide (((Below.refl w2.heap.size w2).alloc (Nat.le_refl _) _).trans (hb3.mono (by simp)))
        clear hb3
        go_wp2
        go_ret
        rw [hL.out]
        exact RefPost.out HBr.out (RefPost.mk (by rw [HT.out, if_neg H0.out]; rfl) HR2.out HS2.out HB3.out) (Below.refl _ _)
set_option maxRecDepth 100000 in
set_option maxHeartbeats 8000000 in
theorem refLine_pull {r : Nat} {A : Vals} {t : Nat} (hI : RI A t) (_ht : t < 4000) {s : ByteArray} (hs : s.size ≤ 100000) {xs : List (List UInt8)} (hcut : cutL 32 s.data.toList = [112, 117, 108, 108] :: xs) (hm : xs.length = 0) (W : World) (G : List Nat) (hR : RefAt W r 50 A G) :
    Calls Tryz.prog 9 #[.pointer (some ⟨r, 0, none⟩), .string s] W (RefPost r (lineR A s.data.toList).2 G W (lineR A s.data.toList).1) := by
  have hbad : numsL xs = none → lineR A s.data.toList = (badW, A) := fun h => line_none hcut h
  have hok : lineR A s.data.toList = pullR A := by obtain rfl : xs = [] := List.length_eq_zero_iff.1 hm; rw [line_ok hcut rfl (us := []) rfl]; rfl
  have SP := hide (fun W1 => refCut 32 s (by omega) W1)
  have HC := hide hcut
  obtain ⟨i0, hi, hz0, hz1, hz2⟩ := info_parts Tryz.infoInt
  have Hi0 := hide hi
  have Hz0 := hide hz0
  have Hz1 := hide hz1
  have Hz2 := hide hz2
  have HR := hide hR
  have HGL := hide hR.lt
  have HI := hide hI
  have HM := hide hm
  have HSS := hide hs
  generalize lineR A s.data.toList = L at hbad hok ⊢
  have HBAD := hide hbad
  have HOK := hide hok
  clear hbad hok hI hR hm hcut hi hz0 hz1 hz2
  go_enter Tryz.func9, Tryz.ntmps9
  go_wp2_with fail
  refine (SP.out _).mono ?_
  rintro e w1 ⟨v, ps, hps, rfl, hown, hb1⟩
  rw [HC.out] at hps
  obtain ⟨x, qs, rfl, hx, hq⟩ := cut_parts hps
  have hql : qs.length = 0 := by have h1 := HM.out; rw [← hq] at h1; simpa [wordsL] using h1
  have HY : Hid (∀ j, j < 1 → w1.cell? ⟨(rowBlk v), j, none⟩ = some (.string ((x :: qs).getD j ByteArray.empty)) ∧ ((x :: qs).getD j ByteArray.empty).size ≤ 100000) := hide (fun j hj => ⟨row_cell hown (by simp [hql]; omega), cut_size hps HC.out HSS.out rfl j (by simp [hql]; omega)⟩)
  have HTN : Hid (∀ j, 1 ≤ j → j < 1 → xs.take j = xs.take (j - 1) ++ [((x :: qs).getD j ByteArray.empty).data.toList]) := hide (fun j h1 h2 => take_next hq h1 (by omega))
  obtain ⟨g, c, hv, hgb, hgl, hnc, hcm⟩ := own_form hown (by simp)
  have eg : rowBlk v = g := by rw [hv]; rfl
  have hl : (x :: qs).length = 1 := by simp [hql]
  rw [hl] at hv
  rw [eg] at HY
  subst hv
  have q0 : w1.cell? ⟨g, 0, none⟩ = some (.string x) := (HY.out 0 (by omega)).1
  have q0r : Hid (∀ X, Below w1.heap.size w1 X → X.cell? ⟨g, 0, none⟩ = some (.string x)) := hide (fun X hX => (hX.cell (p := ⟨g, 0, none⟩) hgl).trans q0)
  have HB1 := hide hb1
  have HGG := hide hgl
  have HXE := hide hx
  obtain ⟨ys, hys⟩ : ∃ ys, ys = x :: qs := ⟨_, rfl⟩
  rw [← hys] at HY HTN
  clear hps hown hb1 hgb hgl hnc hcm eg hl hql hq hys
  subst hx
  go_wp2_with fail
  clear q0
  go_loopw [7, 8] (fun nv i wr => ∃ (j : Nat) (us : List Nat), i = .int .i64 (j : Int) ∧ 1 ≤ j ∧ j ≤ 1 ∧ Hid (numsL (xs.take (j - 1)) = some us) ∧ us.length ≤ j ∧ wr.ownsRow w1.heap.size 3 1 nv us.length (us.map (fun u : Nat => Value.int .i64 (u : Int))) ∧ Below w1.heap.size w1 wr) (fun _ i _ => 200 - (intOf i).toNat)
  case atStart => exact ⟨1, [], rfl, by omega, by omega, hide rfl, by simp, World.ownsRow_nil _ _ _ _, Below.refl _ _⟩
  case round =>
    obtain ⟨j, us, rfl, hj1, hjn, HU, hul, hown, hbw⟩ := hrel
    have HO := hide hown
    have HBW := hide hbw
    have hyr : w1.heap.size ≤ wr.heap.size := hbw.size
    · obtain rfl : j = 1 := by omega
      have hfin : numsL xs = some us := by
        have := HU.out
        rwa [List.take_of_length_le (by rw [HM.out]; omega)] at this
      have hBr : Below W.heap.size W wr := HB1.out.trans (hbw.mono HB1.out.size)
      have HBr := hide hBr
      have hRr := HR.out.bel hBr
      have q0f := q0r.out _ hbw
      have hL := hide HOK.out
      cases hz : A.zs with
      | nil =>
        have hp : pullR A = (nameL 5, A) := by unfold pullR; rw [hz]
        have hL2 := hide (hL.out.trans hp)
        obtain ⟨a, cq, c4⟩ := hRr.que
        rw [hz] at c4
        have e0 : ([] : List (Int × Int)).length = 0 := rfl
        rw [e0] at c4
        have NM := hide (fun W => refName (f := 5) (by decide) (by decide) W)
        have HRr := hide hRr
        clear hp hz hRr hbw hown hBr e0
        go_wp2_with fail
        refine (NM.out _).mono ?_
        rintro e w2 ⟨rfl, hb2⟩
        have HB2 := hide hb2
        clear hb2
        go_wp2
        go_ret
        rw [hL2.out]
        exact RefPost.out HBr.out (RefPost.mk rfl (HRr.out.bel HB2.out) (SVst.of_below HB2.out) (Below.refl _ _)) (Below.refl _ _)
      | cons x l =>
        have hp : pullR A = (digL (connN x.1 x.2), { A with zs := l }) := by unfold pullR; rw [hz]
        have hL2 := hide (hL.out.trans hp)
        obtain ⟨gq, oq, cq, c4, d0, d1⟩ := hRr.que1 hz
        have hcb : connB x.1 x.2 = true := by
          have h1 := HI.out.1.2.2.2.1 x (by rw [hz]; simp)
          have h2 := HI.out.2 x (by rw [hz]; simp)
          have h3 := HI.out.1.2.2.2.2.1
          exact decide_eq_true (by omega)
        have hl8 : l.length ≤ 8 := by have := HI.out.1.2.2.1; rw [hz] at this; simp at this; omega
        have GG := hide (fun W1 (hb : Below wr.heap.size wr W1) => (refOut (r := r) hz).at2 hRr hb)
        have CI := hide (fun W => rNumber x.1 x.2 W hcb)
        have hcn := connN_num hcb
        have DG := hide (fun W => refDigits hcn.1 hcn.2 W)
        have DL := hide (numB_digL hcn)
        obtain ⟨C, hC⟩ : ∃ C : Vals, C = { A with zs := l } := ⟨_, rfl⟩
        rw [← hC] at GG hL2
        generalize connN x.1 x.2 = cn at CI DG DL hL2
        generalize numB cn = nb at DG DL
        generalize x.1 = x0 at d0 CI
        generalize x.2 = x1 at d1 CI
        generalize l.length = ll at c4 hl8
        obtain ⟨W1, hW1⟩ : ∃ W1, W1 = wr.alloc (.cells #[.int .i64 x0, .int .i64 x1] 74) := ⟨_, rfl⟩
        have ho1 : ObjAt W1 wr.heap.size 74 [.int .i64 x0, .int .i64 x1] := by rw [hW1]; exact objNew rfl
        have hb1 : Below wr.heap.size wr W1 := by rw [hW1]; exact (Below.refl _ _).alloc (Nat.le_refl _) _
        have hgr : wr.heap.size ∉ G := fun hm => by have h1 := HGL.out _ hm; have h2 := HBr.out.size; omega
        have HO1 := hide ho1
        have HBW1 := hide hb1
        have HGR := hide hgr
        clear hcn hcb hp hz hRr hbw hown hBr hC ho1 hb1 hgr
        go_wp2_with fail
        rw [← hW1]
        clear hW1
        refine (GG.out W1 HBW1.out).mono ?_
        rintro e w2 ⟨rfl, G', hR2, hs2⟩
        have hbx := hs2.1.obj HO1.out HGR.out
        have b0 := hbx.cell (i := 0) rfl
        have b1 := hbx.cell (i := 1) rfl
        have HR2 := hide hR2
        have HS2 := hide (hs2.pre HBW1.out)
        clear hR2 hs2 c4 d0 d1 hbx
        go_wp2_with fail
        refine (CI.out _).mono ?_
        rintro e w3 ⟨rfl, hb3⟩
        have HB3 := hide hb3
        clear hb3 b0 b1
        go_wp2_with fail
        refine (DG.out _).mono ?_
        rintro e w4 ⟨rfl, rfl⟩
        go_wp2
        go_ret
        rw [hL2.out]
        exact RefPost.out HBr.out (RefPost.mk DL.out HR2.out HS2.out HB3.out) (Below.refl _ _)
set_option maxRecDepth 100000 in
set_option maxHeartbeats 8000000 in
theorem refLine_turn {r : Nat} {A : Vals} {t : Nat} (hI : RI A t) (_ht : t < 4000) {s : ByteArray} (hs : s.size ≤ 100000) {xs : List (List UInt8)} (hcut : cutL 32 s.data.toList = [116, 117, 114, 110] :: xs) (hm : xs.length = 0) (W : World) (G : List Nat) (hR : RefAt W r 50 A G) :
    Calls Tryz.prog 9 #[.pointer (some ⟨r, 0, none⟩), .string s] W (RefPost r (lineR A s.data.toList).2 G W (lineR A s.data.toList).1) := by
  have hbad : numsL xs = none → lineR A s.data.toList = (badW, A) := fun h => line_none hcut h
  have hok : lineR A s.data.toList = turnR A := by obtain rfl : xs = [] := List.length_eq_zero_iff.1 hm; rw [line_ok hcut rfl (us := []) rfl]; rfl
  have SP := hide (fun W1 => refCut 32 s (by omega) W1)
  have HC := hide hcut
  obtain ⟨i0, hi, hz0, hz1, hz2⟩ := info_parts Tryz.infoInt
  have Hi0 := hide hi
  have Hz0 := hide hz0
  have Hz1 := hide hz1
  have Hz2 := hide hz2
  have HR := hide hR
  have HGL := hide hR.lt
  have HI := hide hI
  have HM := hide hm
  have HSS := hide hs
  generalize lineR A s.data.toList = L at hbad hok ⊢
  have HBAD := hide hbad
  have HOK := hide hok
  clear hbad hok hI hR hm hcut hi hz0 hz1 hz2
  go_enter Tryz.func9, Tryz.ntmps9
  go_wp2_with fail
  refine (SP.out _).mono ?_
  rintro e w1 ⟨v, ps, hps, rfl, hown, hb1⟩
  rw [HC.out] at hps
  obtain ⟨x, qs, rfl, hx, hq⟩ := cut_parts hps
  have hql : qs.length = 0 := by have h1 := HM.out; rw [← hq] at h1; simpa [wordsL] using h1
  have HY : Hid (∀ j, j < 1 → w1.cell? ⟨(rowBlk v), j, none⟩ = some (.string ((x :: qs).getD j ByteArray.empty)) ∧ ((x :: qs).getD j ByteArray.empty).size ≤ 100000) := hide (fun j hj => ⟨row_cell hown (by simp [hql]; omega), cut_size hps HC.out HSS.out rfl j (by simp [hql]; omega)⟩)
  have HTN : Hid (∀ j, 1 ≤ j → j < 1 → xs.take j = xs.take (j - 1) ++ [((x :: qs).getD j ByteArray.empty).data.toList]) := hide (fun j h1 h2 => take_next hq h1 (by omega))
  obtain ⟨g, c, hv, hgb, hgl, hnc, hcm⟩ := own_form hown (by simp)
  have eg : rowBlk v = g := by rw [hv]; rfl
  have hl : (x :: qs).length = 1 := by simp [hql]
  rw [hl] at hv
  rw [eg] at HY
  subst hv
  have q0 : w1.cell? ⟨g, 0, none⟩ = some (.string x) := (HY.out 0 (by omega)).1
  have q0r : Hid (∀ X, Below w1.heap.size w1 X → X.cell? ⟨g, 0, none⟩ = some (.string x)) := hide (fun X hX => (hX.cell (p := ⟨g, 0, none⟩) hgl).trans q0)
  have HB1 := hide hb1
  have HGG := hide hgl
  have HXE := hide hx
  obtain ⟨ys, hys⟩ : ∃ ys, ys = x :: qs := ⟨_, rfl⟩
  rw [← hys] at HY HTN
  clear hps hown hb1 hgb hgl hnc hcm eg hl hql hq hys
  subst hx
  go_wp2_with fail
  clear q0
  go_loopw [7, 8] (fun nv i wr => ∃ (j : Nat) (us : List Nat), i = .int .i64 (j : Int) ∧ 1 ≤ j ∧ j ≤ 1 ∧ Hid (numsL (xs.take (j - 1)) = some us) ∧ us.length ≤ j ∧ wr.ownsRow w1.heap.size 3 1 nv us.length (us.map (fun u : Nat => Value.int .i64 (u : Int))) ∧ Below w1.heap.size w1 wr) (fun _ i _ => 200 - (intOf i).toNat)
  case atStart => exact ⟨1, [], rfl, by omega, by omega, hide rfl, by simp, World.ownsRow_nil _ _ _ _, Below.refl _ _⟩
  case round =>
    obtain ⟨j, us, rfl, hj1, hjn, HU, hul, hown, hbw⟩ := hrel
    have HO := hide hown
    have HBW := hide hbw
    have hyr : w1.heap.size ≤ wr.heap.size := hbw.size
    · obtain rfl : j = 1 := by omega
      have hfin : numsL xs = some us := by
        have := HU.out
        rwa [List.take_of_length_le (by rw [HM.out]; omega)] at this
      have hBr : Below W.heap.size W wr := HB1.out.trans (hbw.mono HB1.out.size)
      have HBr := hide hBr
      have hRr := HR.out.bel hBr
      have q0f := q0r.out _ hbw
      have hL := hide HOK.out
      obtain ⟨_, t1, t2, t3, f, htx, hf, hCC, hT, _⟩ := rt_turn (B := 0) (b := 0) HI.out
      obtain ⟨⟨rc0, rc1, rc2⟩, _⟩ := hRr.ring
      have HRr := hide hRr
      have HT := hide hT
      have HTX := hide htx
      have HCC := hide hCC
      by_cases h0 : f = 0
      · subst h0
        clear hRr hbw hown hBr hT htx hCC hf
        go_wp2_with fail
        refine (HT.out _).mono ?_
        rintro e w2 ⟨rfl, hb2⟩
        obtain ⟨W3, hW3⟩ : ∃ W3, W3 = w2.alloc (.cells #[.int .i64 t1, .int .i64 t2, .int .i64 t3] 52) := ⟨_, rfl⟩
        obtain ⟨Y, hY⟩ : ∃ Y, Y = w2.heap.size := ⟨_, rfl⟩
        have hB3 : Below wr.heap.size wr W3 := by rw [hW3]; exact hb2.alloc hb2.size _
        have ho3 : ObjAt W3 Y 52 [.int .i64 t1, .int .i64 t2, .int .i64 t3] := by rw [hW3, hY]; exact objNew rfl
        have hR3 := HRr.out.bel hB3
        obtain ⟨⟨ra0, ra1, ra2⟩, rf0, rf1, rf2⟩ := hR3.ring
        have p0 := ho3.cell (i := 0) rfl
        have p1 := ho3.cell (i := 1) rfl
        have p2 := ho3.cell (i := 2) rfl
        have HB3 := hide hB3
        have HR3 := hide hR3
        clear hb2 hB3 hR3 ho3 rc0 rc1 rc2
        go_upto_region 43 with (fail)
        rw [← hW3, ← hY]
        clear hW3 hY
        go_wp2
        go_ret
        rw [hL.out]
        refine RefPost.out HBr.out (RefPost.mk (G' := G) ?_ ?_ ?_ (Below.refl _ _)) (Below.refl _ _)
        · rw [HTX.out]; rfl
        · rw [HCC.out, if_pos (by trivial)]
          exact (HR3.out.turn t1 t2 t3).1
        · exact (HR3.out.turn t1 t2 t3).2.pre HB3.out
      · have hne : (f != 0) = true := bne_iff_ne.2 h0
        have H0 := hide h0
        have NM := hide (fun W => refName hf.1 hf.2 W)
        clear hRr hbw hown hBr hT htx hCC hf h0
        go_wp2_with fail
        refine (HT.out _).mono ?_
        rintro e w2 ⟨rfl, hb2⟩
        have HB2 := hide hb2
        clear hb2
        go_wp2_with fail
        refine (NM.out _).mono ?_
        rintro e w3 ⟨rfl, hb3⟩
        have HB3 := hide (HB2.out.trans (Below.mono (((Below.refl w2.heap.size w2).alloc (Nat.le_refl _) _).trans (hb3.mono (by simp))) HB2.out.size))
        clear hb3
        go_wp2
        go_ret
        rw [hL.out]
        refine RefPost.out HBr.out (RefPost.mk ?_ ?_ (SVst.of_below HB3.out) (Below.refl _ _)) (Below.refl _ _)
        · rw [HTX.out, if_neg H0.out]; rfl
        · rw [HCC.out, if_neg H0.out]
          exact HRr.out.bel HB3.out
set_option maxRecDepth 100000 in
set_option maxHeartbeats 8000000 in
theorem refLine_crash {r : Nat} {A : Vals} {t : Nat} (hI : RI A t) (_ht : t < 4000) {s : ByteArray} (hs : s.size ≤ 100000) {xs : List (List UInt8)} (hcut : cutL 32 s.data.toList = [99, 114, 97, 115, 104] :: xs) (hm : xs.length = 0) (W : World) (G : List Nat) (hR : RefAt W r 50 A G) :
    Calls Tryz.prog 9 #[.pointer (some ⟨r, 0, none⟩), .string s] W (RefPost r (lineR A s.data.toList).2 G W (lineR A s.data.toList).1) := by
  have hbad : numsL xs = none → lineR A s.data.toList = (badW, A) := fun h => line_none hcut h
  have hok : lineR A s.data.toList = (okW, crashV A) := by obtain rfl : xs = [] := List.length_eq_zero_iff.1 hm; rw [line_ok hcut rfl (us := []) rfl]; rfl
  have SP := hide (fun W1 => refCut 32 s (by omega) W1)
  have HC := hide hcut
  obtain ⟨i0, hi, hz0, hz1, hz2⟩ := info_parts Tryz.infoInt
  have Hi0 := hide hi
  have Hz0 := hide hz0
  have Hz1 := hide hz1
  have Hz2 := hide hz2
  have HR := hide hR
  have HGL := hide hR.lt
  have HI := hide hI
  have HM := hide hm
  have HSS := hide hs
  generalize lineR A s.data.toList = L at hbad hok ⊢
  have HBAD := hide hbad
  have HOK := hide hok
  clear hbad hok hI hR hm hcut hi hz0 hz1 hz2
  go_enter Tryz.func9, Tryz.ntmps9
  go_wp2_with fail
  refine (SP.out _).mono ?_
  rintro e w1 ⟨v, ps, hps, rfl, hown, hb1⟩
  rw [HC.out] at hps
  obtain ⟨x, qs, rfl, hx, hq⟩ := cut_parts hps
  have hql : qs.length = 0 := by have h1 := HM.out; rw [← hq] at h1; simpa [wordsL] using h1
  have HY : Hid (∀ j, j < 1 → w1.cell? ⟨(rowBlk v), j, none⟩ = some (.string ((x :: qs).getD j ByteArray.empty)) ∧ ((x :: qs).getD j ByteArray.empty).size ≤ 100000) := hide (fun j hj => ⟨row_cell hown (by simp [hql]; omega), cut_size hps HC.out HSS.out rfl j (by simp [hql]; omega)⟩)
  have HTN : Hid (∀ j, 1 ≤ j → j < 1 → xs.take j = xs.take (j - 1) ++ [((x :: qs).getD j ByteArray.empty).data.toList]) := hide (fun j h1 h2 => take_next hq h1 (by omega))
  obtain ⟨g, c, hv, hgb, hgl, hnc, hcm⟩ := own_form hown (by simp)
  have eg : rowBlk v = g := by rw [hv]; rfl
  have hl : (x :: qs).length = 1 := by simp [hql]
  rw [hl] at hv
  rw [eg] at HY
  subst hv
  have q0 : w1.cell? ⟨g, 0, none⟩ = some (.string x) := (HY.out 0 (by omega)).1
  have q0r : Hid (∀ X, Below w1.heap.size w1 X → X.cell? ⟨g, 0, none⟩ = some (.string x)) := hide (fun X hX => (hX.cell (p := ⟨g, 0, none⟩) hgl).trans q0)
  have HB1 := hide hb1
  have HGG := hide hgl
  have HXE := hide hx
  obtain ⟨ys, hys⟩ : ∃ ys, ys = x :: qs := ⟨_, rfl⟩
  rw [← hys] at HY HTN
  clear hps hown hb1 hgb hgl hnc hcm eg hl hql hq hys
  subst hx
  go_wp2_with fail
  clear q0
  go_loopw [7, 8] (fun nv i wr => ∃ (j : Nat) (us : List Nat), i = .int .i64 (j : Int) ∧ 1 ≤ j ∧ j ≤ 1 ∧ Hid (numsL (xs.take (j - 1)) = some us) ∧ us.length ≤ j ∧ wr.ownsRow w1.heap.size 3 1 nv us.length (us.map (fun u : Nat => Value.int .i64 (u : Int))) ∧ Below w1.heap.size w1 wr) (fun _ i _ => 200 - (intOf i).toNat)
  case atStart => exact ⟨1, [], rfl, by omega, by omega, hide rfl, by simp, World.ownsRow_nil _ _ _ _, Below.refl _ _⟩
  case round =>
    obtain ⟨j, us, rfl, hj1, hjn, HU, hul, hown, hbw⟩ := hrel
    have HO := hide hown
    have HBW := hide hbw
    have hyr : w1.heap.size ≤ wr.heap.size := hbw.size
    · obtain rfl : j = 1 := by omega
      have hfin : numsL xs = some us := by
        have := HU.out
        rwa [List.take_of_length_le (by rw [HM.out]; omega)] at this
      have hBr : Below W.heap.size W wr := HB1.out.trans (hbw.mono HB1.out.size)
      have HBr := hide hBr
      have hRr := HR.out.bel hBr
      have q0f := q0r.out _ hbw
      have hL := hide HOK.out
      obtain ⟨_, hg, _⟩ := rt_crash (B := 0) (b := 0) (r := r) HI.out
      have GG := hide (fun W1 (hb : Below wr.heap.size wr W1) => hg.at hRr hb)
      clear hg hRr hbw hown hBr
      go_wp2_with fail
      refine (GG.out _ (by go_grown)).mono ?_
      rintro e w2 ⟨rfl, ⟨G', hR2, hs2⟩, hz2⟩
      have HR2 := hide hR2
      have HS2 := hide hs2
      clear hR2 hs2
      go_wp2
      go_ret
      rw [hL.out]
      exact RefPost.out HBr.out (RefPost.mk rfl HR2.out HS2.out (Below.refl _ _)) (Below.refl _ _)
set_option maxRecDepth 100000 in
set_option maxHeartbeats 8000000 in
theorem refLine_wait {r : Nat} {A : Vals} {t : Nat} (hI : RI A t) (_ht : t < 4000) {s : ByteArray} (hs : s.size ≤ 100000) {xs : List (List UInt8)} (hcut : cutL 32 s.data.toList = [119, 97, 105, 116, 105, 110, 103] :: xs) (hm : xs.length = 0) (W : World) (G : List Nat) (hR : RefAt W r 50 A G) :
    Calls Tryz.prog 9 #[.pointer (some ⟨r, 0, none⟩), .string s] W (RefPost r (lineR A s.data.toList).2 G W (lineR A s.data.toList).1) := by
  have hbad : numsL xs = none → lineR A s.data.toList = (badW, A) := fun h => line_none hcut h
  have hok : lineR A s.data.toList = (digL (A.zs.length : Int), A) := by obtain rfl : xs = [] := List.length_eq_zero_iff.1 hm; rw [line_ok hcut rfl (us := []) rfl]; rfl
  have SP := hide (fun W1 => refCut 32 s (by omega) W1)
  have HC := hide hcut
  obtain ⟨i0, hi, hz0, hz1, hz2⟩ := info_parts Tryz.infoInt
  have Hi0 := hide hi
  have Hz0 := hide hz0
  have Hz1 := hide hz1
  have Hz2 := hide hz2
  have HR := hide hR
  have HGL := hide hR.lt
  have HI := hide hI
  have HM := hide hm
  have HSS := hide hs
  generalize lineR A s.data.toList = L at hbad hok ⊢
  have HBAD := hide hbad
  have HOK := hide hok
  clear hbad hok hI hR hm hcut hi hz0 hz1 hz2
  go_enter Tryz.func9, Tryz.ntmps9
  go_wp2_with fail
  refine (SP.out _).mono ?_
  rintro e w1 ⟨v, ps, hps, rfl, hown, hb1⟩
  rw [HC.out] at hps
  obtain ⟨x, qs, rfl, hx, hq⟩ := cut_parts hps
  have hql : qs.length = 0 := by have h1 := HM.out; rw [← hq] at h1; simpa [wordsL] using h1
  have HY : Hid (∀ j, j < 1 → w1.cell? ⟨(rowBlk v), j, none⟩ = some (.string ((x :: qs).getD j ByteArray.empty)) ∧ ((x :: qs).getD j ByteArray.empty).size ≤ 100000) := hide (fun j hj => ⟨row_cell hown (by simp [hql]; omega), cut_size hps HC.out HSS.out rfl j (by simp [hql]; omega)⟩)
  have HTN : Hid (∀ j, 1 ≤ j → j < 1 → xs.take j = xs.take (j - 1) ++ [((x :: qs).getD j ByteArray.empty).data.toList]) := hide (fun j h1 h2 => take_next hq h1 (by omega))
  obtain ⟨g, c, hv, hgb, hgl, hnc, hcm⟩ := own_form hown (by simp)
  have eg : rowBlk v = g := by rw [hv]; rfl
  have hl : (x :: qs).length = 1 := by simp [hql]
  rw [hl] at hv
  rw [eg] at HY
  subst hv
  have q0 : w1.cell? ⟨g, 0, none⟩ = some (.string x) := (HY.out 0 (by omega)).1
  have q0r : Hid (∀ X, Below w1.heap.size w1 X → X.cell? ⟨g, 0, none⟩ = some (.string x)) := hide (fun X hX => (hX.cell (p := ⟨g, 0, none⟩) hgl).trans q0)
  have HB1 := hide hb1
  have HGG := hide hgl
  have HXE := hide hx
  obtain ⟨ys, hys⟩ : ∃ ys, ys = x :: qs := ⟨_, rfl⟩
  rw [← hys] at HY HTN
  clear hps hown hb1 hgb hgl hnc hcm eg hl hql hq hys
  subst hx
  go_wp2_with fail
  clear q0
  go_loopw [7, 8] (fun nv i wr => ∃ (j : Nat) (us : List Nat), i = .int .i64 (j : Int) ∧ 1 ≤ j ∧ j ≤ 1 ∧ Hid (numsL (xs.take (j - 1)) = some us) ∧ us.length ≤ j ∧ wr.ownsRow w1.heap.size 3 1 nv us.length (us.map (fun u : Nat => Value.int .i64 (u : Int))) ∧ Below w1.heap.size w1 wr) (fun _ i _ => 200 - (intOf i).toNat)
  case atStart => exact ⟨1, [], rfl, by omega, by omega, hide rfl, by simp, World.ownsRow_nil _ _ _ _, Below.refl _ _⟩
  case round =>
    obtain ⟨j, us, rfl, hj1, hjn, HU, hul, hown, hbw⟩ := hrel
    have HO := hide hown
    have HBW := hide hbw
    have hyr : w1.heap.size ≤ wr.heap.size := hbw.size
    · obtain rfl : j = 1 := by omega
      have hfin : numsL xs = some us := by
        have := HU.out
        rwa [List.take_of_length_le (by rw [HM.out]; omega)] at this
      have hBr : Below W.heap.size W wr := HB1.out.trans (hbw.mono HB1.out.size)
      have HBr := hide hBr
      have hRr := HR.out.bel hBr
      have q0f := q0r.out _ hbw
      have hL := hide HOK.out
      obtain ⟨a, cq, c4⟩ := hRr.que
      have hzl : A.zs.length ≤ 8 := HI.out.1.2.2.1
      have hnm : numOk (A.zs.length : Int) := ⟨by omega, by omega⟩
      have DG := hide (fun W => refDigits hnm.1 hnm.2 W)
      have DL := hide (numB_digL hnm)
      have HRr := hide hRr
      generalize A.zs.length = zl at c4 hzl DG DL hL
      generalize numB (zl : Int) = nb at DG DL
      clear hnm hRr hbw hown hBr
      go_wp2_with fail
      refine (DG.out _).mono ?_
      rintro e w4 ⟨rfl, rfl⟩
      go_wp2
      go_ret
      rw [hL.out]
      exact RefPost.out HBr.out (RefPost.mk DL.out HRr.out (SVst.of_below (Below.refl _ _)) (Below.refl _ _)) (Below.refl _ _)
end Go.Proofs.YtlnghfmcofmkjaaGreatDoor
