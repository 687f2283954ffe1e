/- foldref2.Server: Line; hello, again. -/
import Derived.Test.YtlnghfmcofmkjaaGreatDoorRunAnswersProofM41
import Derived.Test.YtlnghfmcofmkjaaGreatDoorRunAnswersProofM4
import Derived.Deep.RegionHeld3
namespace Go.Proofs.YtlnghfmcofmkjaaGreatDoor
open Go.RowKit

theorem cut_parts {ps : List ByteArray} {w : List UInt8} {xs : List (List UInt8)} (h : ps.map (·.data.toList) = w :: xs) : ∃ x qs, ps = x :: qs ∧ x = ⟨w.toArray⟩ ∧ wordsL qs = xs := by
  cases ps with
  | nil => cases h
  | cons x qs =>
    rw [List.map_cons] at h
    obtain ⟨h1, h2⟩ := List.cons.inj h
    exact ⟨x, qs, rfl, ba_of_list (by simpa using h1), h2⟩
theorem line_none {A : Vals} {s w : List UInt8} {xs : List (List UInt8)} (hc : cutL 32 s = w :: xs) (h : numsL xs = none) : lineR A s = (badW, A) := by
  unfold lineR readL
  rw [hc]
  simp only [h]
  cases wantsL w <;> rfl
theorem line_ok {A : Vals} {s w : List UInt8} {xs : List (List UInt8)} (hc : cutL 32 s = w :: xs) (hw : wantsL w = some xs.length) {us : List Nat} (h : numsL xs = some us) : lineR A s = doR A w us := by
  unfold lineR readL
  rw [hc]
  simp only [h, hw, numsL_len _ _ h, if_true]
theorem line_many {A : Vals} {s w : List UInt8} {xs : List (List UInt8)} (hc : cutL 32 s = w :: xs) {m : Nat} (hw : wantsL w = some m) (hm : xs.length ≠ m) : lineR A s = (badW, A) := by
  cases h : numsL xs with
  | none => exact line_none hc h
  | some us =>
    unfold lineR readL
    rw [hc]
    simp only [h, hw, numsL_len _ _ h, if_neg hm]
theorem line_unknown {A : Vals} {s w : List UInt8} {xs : List (List UInt8)} (hc : cutL 32 s = w :: xs) (hw : wantsL w = none) : lineR A s = (badW, A) := by
  unfold lineR readL
  rw [hc]
  simp only [hw]
/-- the block of a row -/
def rowBlk : Value → Nat
  | .slice (some a) _ _ => a.block
  | _ => 0
theorem row_cell {w : World} {base : Nat} {v : Value} {ps : List ByteArray} (h : w.ownsRow base 9 1 v ps.length (ps.map Value.string)) {j : Nat} (hj : j < ps.length) : w.cell? ⟨rowBlk v, j, none⟩ = some (.string (ps.getD j ByteArray.empty)) := by
  obtain ⟨g, cap, hv, _⟩ := own_form h (by omega)
  rw [hv] at h
  rw [hv]
  show w.cell? ⟨g, j, none⟩ = _
  rw [h.cellAt j (by omega), getD_map_str ps j hj]
theorem cut_size {ps : List ByteArray} {l : List UInt8} {c : UInt8} {z : List (List UInt8)} (h : ps.map (·.data.toList) = z) (hz : cutL c l = z) {n : Nat} {s : ByteArray} (hs : s.size ≤ n) (hl : l = s.data.toList) (j : Nat) (hj : j < ps.length) : (ps.getD j ByteArray.empty).size ≤ n := by
  have h1 : (ps.getD j ByteArray.empty).data.toList ∈ cutL c l := by
    rw [hz, ← h]
    refine List.mem_map.2 ⟨_, ?_, rfl⟩
    simp [List.getD, List.getElem?_eq_getElem hj]
  have h2 := mem_cut h1
  rw [hl] at h2
  have h3 : (ps.getD j ByteArray.empty).size ≤ s.size := by simpa using h2
  omega
theorem take_next {xs : List (List UInt8)} {qs : List ByteArray} {x : ByteArray} (hq : wordsL qs = xs) {j : Nat} (h1 : 1 ≤ j) (h2 : j < qs.length + 1) : xs.take j = xs.take (j - 1) ++ [((x :: qs).getD j ByteArray.empty).data.toList] := by
  subst hq
  obtain ⟨k, rfl⟩ : ∃ k, j = k + 1 := ⟨j - 1, by omega⟩
  exact wordsL_take qs k (by omega)
theorem len1 {us : List Nat} (h : us.length = 1) : ∃ a, us = [a] := by
  match us, h with
  | [a], _ => exact ⟨a, rfl⟩
theorem len2 {us : List Nat} (h : us.length = 2) : ∃ a b, us = [a, b] := by
  match us, h with
  | [a, b], _ => exact ⟨a, b, rfl⟩
theorem len6 {us : List Nat} (h : us.length = 6) : ∃ a b c d e f, us = [a, b, c, d, e, f] := by
  match us, h with
  | [a, b, c, d, e, f], _ => exact ⟨a, b, c, d, e, f, rfl⟩
set_option maxRecDepth 100000 in
set_option maxHeartbeats 8000000 in
theorem refLine_hello {r : Nat} {A : Vals} {t : Nat} (hI : RI A t) (ht : t < 4000) {s : ByteArray} (hs : s.size ≤ 100000) {xs : List (List UInt8)} (hcut : cutL 32 s.data.toList = [104, 101, 108, 108, 111] :: xs) (hm : xs.length = 2) (W : World) (G : List Nat) (hR : RefAt W r 50 A G) :
    Calls Tryz.prog 9 #[.pointer (some ⟨r, 0, none⟩), .string s] W (RefPost r (lineR A s.data.toList).2 G W (lineR A s.data.toList).1) := by
  have hbad : numsL xs = none → lineR A s.data.toList = (badW, A) := fun h => line_none hcut h
  have hok : ∀ u0 u1 : Nat, numsL xs = some [u0, u1] → lineR A s.data.toList = helloR A u0 0 0 0 0 u1 := fun u0 u1 h => by rw [line_ok hcut (by rw [hm]; rfl) h]; rfl
  have SP := hide (fun W1 => refCut 32 s (by omega) W1)
  have HC := hide hcut
  obtain ⟨i0, hi, hz0, hz1, hz2⟩ := info_parts Tryz.infoInt
  have Hi0 := hide hi
  have Hz0 := hide hz0
  have Hz1 := hide hz1
  have Hz2 := hide hz2
  have HR := hide hR
  have HGL := hide hR.lt
  have HI := hide hI
  have HM := hide hm
  have HSS := hide hs
  generalize lineR A s.data.toList = L at hbad hok ⊢
  have HBAD := hide hbad
  have HOK := hide hok
  clear hbad hok hI hR hm hcut hi hz0 hz1 hz2
  go_enter Tryz.func9, Tryz.ntmps9
  go_wp2_with fail
  refine (SP.out _).mono ?_
  rintro e w1 ⟨v, ps, hps, rfl, hown, hb1⟩
  rw [HC.out] at hps
  obtain ⟨x, qs, rfl, hx, hq⟩ := cut_parts hps
  have hql : qs.length = 2 := by have h1 := HM.out; rw [← hq] at h1; simpa [wordsL] using h1
  have HY : Hid (∀ j, j < 3 → w1.cell? ⟨(rowBlk v), j, none⟩ = some (.string ((x :: qs).getD j ByteArray.empty)) ∧ ((x :: qs).getD j ByteArray.empty).size ≤ 100000) := hide (fun j hj => ⟨row_cell hown (by simp [hql]; omega), cut_size hps HC.out HSS.out rfl j (by simp [hql]; omega)⟩)
  have HTN : Hid (∀ j, 1 ≤ j → j < 3 → xs.take j = xs.take (j - 1) ++ [((x :: qs).getD j ByteArray.empty).data.toList]) := hide (fun j h1 h2 => take_next hq h1 (by omega))
  obtain ⟨g, c, hv, hgb, hgl, hnc, hcm⟩ := own_form hown (by simp)
  have eg : rowBlk v = g := by rw [hv]; rfl
  have hl : (x :: qs).length = 3 := by simp [hql]
  rw [hl] at hv
  rw [eg] at HY
  subst hv
  have q0 : w1.cell? ⟨g, 0, none⟩ = some (.string x) := (HY.out 0 (by omega)).1
  have q0r : Hid (∀ X, Below w1.heap.size w1 X → X.cell? ⟨g, 0, none⟩ = some (.string x)) := hide (fun X hX => (hX.cell (p := ⟨g, 0, none⟩) hgl).trans q0)
  have HB1 := hide hb1
  have HGG := hide hgl
  have HXE := hide hx
  obtain ⟨ys, hys⟩ : ∃ ys, ys = x :: qs := ⟨_, rfl⟩
  rw [← hys] at HY HTN
  clear hps hown hb1 hgb hgl hnc hcm eg hl hql hq hys
  subst hx
  go_wp2_with fail
  clear q0
  go_loopw [7, 8] (fun nv i wr => ∃ (j : Nat) (us : List Nat), i = .int .i64 (j : Int) ∧ 1 ≤ j ∧ j ≤ 3 ∧ Hid (numsL (xs.take (j - 1)) = some us) ∧ us.length ≤ j ∧ wr.ownsRow w1.heap.size 3 1 nv us.length (us.map (fun u : Nat => Value.int .i64 (u : Int))) ∧ Below w1.heap.size w1 wr) (fun _ i _ => 200 - (intOf i).toNat)
  case atStart => exact ⟨1, [], rfl, by omega, by omega, hide rfl, by simp, World.ownsRow_nil _ _ _ _, Below.refl _ _⟩
  case round =>
    obtain ⟨j, us, rfl, hj1, hjn, HU, hul, hown, hbw⟩ := hrel
    have HO := hide hown
    have HBW := hide hbw
    have hyr : w1.heap.size ≤ wr.heap.size := hbw.size
    by_cases hlt : j < 3
    · obtain ⟨av, cv, rfl⟩ := own_slS hown
      have qj : wr.cell? ⟨g, j, none⟩ = some (.string (ys.getD j ByteArray.empty)) := (hbw.cell (p := ⟨g, j, none⟩) HGG.out).trans (HY.out j hlt).1
      have HS := hide (HTN.out j hj1 hlt)
      have NO := hide (fun W1 => refNumber (ys.getD j ByteArray.empty) (by have := (HY.out j hlt).2; omega) W1)
      generalize ys.getD j ByteArray.empty = y at qj HS NO
      clear hown hbw
      go_wp2_with fail
      refine (NO.out _).mono ?_
      rintro e w2 ⟨⟨u, hu, rfl⟩ | ⟨hu, rfl⟩, rfl⟩
      · have HN := hide hu
        clear hu
        go_wp2_with (first | (at_builtin; refine wpList_append_own _ rfl _ _ 50 rfl (w1.heap.size) 3 i0 _ 1 8 Tryz.underlying50 Hi0.out Hz0.out Hz1.out Hz2.out rfl (by decide) _ _ _ rfl (HO.out.alloc _) ⟨wr.heap.size, 0, none⟩ 1 1 [.int .i64 (u : Int)] rfl rfl ?c1 ?c2 ?c3 ?c4 ?c5 ?_))
        case c1 =>
          intro j x hj
          cases j with
          | zero => simp at hj; subst hj; simp [Addr.add]
          | succ j => simp at hj
        case c2 => intro x hu; simp at hu; subst hu; rfl
        case c3 => unfold maxLen; omega
        case c4 => omega
        case c5 => first | omega | (simp; omega)
        intro v2 w40 hown2 hgrow _
        have hg0 : ∀ q, (Value.slice av us.length cv).ownBlock = some q → w1.heap.size ≤ q := own_blk HO.out
        have HB40 := hide (grown_below (HBW.out.alloc hyr _) hgrow hg0 (by simp; omega))
        have HO3 : Hid (w40.ownsRow w1.heap.size 3 1 v2 (us ++ [u]).length ((us ++ [u]).map (fun u : Nat => Value.int .i64 (u : Int)))) := hide (by simpa using hown2)
        clear hown2 hgrow hg0
        go_wp2
        go_roundw
        case rel => exact ⟨j + 1, us ++ [u], by go_num, by omega, by omega, hide (by rw [Nat.add_sub_cancel, HS.out, numsL_snoc, HU.out, Option.bind_some, HN.out]; rfl), by simp; omega, HO3.out, HB40.out⟩
        case measure => simp [intOf]; omega
      · have HN := hide hu
        clear hu
        go_wp2
        go_ret
        have hno : numsL xs = none := by
          cases ha : numsL xs with
          | none => rfl
          | some vs =>
            exfalso
            obtain ⟨zs, hx⟩ := numsL_take ha j
            rw [HS.out, numsL_snoc, HU.out, Option.bind_some, HN.out] at hx
            cases hx
        have hbb := HB1.out.trans (HBW.out.mono HB1.out.size)
        rw [HBAD.out hno]
        exact RefPost.mk rfl (HR.out.bel hbb) (SVst.of_below hbb) (Below.refl _ _)
    · obtain rfl : j = 3 := by omega
      have hfin : numsL xs = some us := by
        have := HU.out
        rwa [List.take_of_length_le (by rw [HM.out]; omega)] at this
      have hBr : Below W.heap.size W wr := HB1.out.trans (hbw.mono HB1.out.size)
      have HBr := hide hBr
      have hRr := HR.out.bel hBr
      have q0f := q0r.out _ hbw
      obtain ⟨u0, u1, rfl⟩ := len2 ((numsL_len _ _ hfin).trans HM.out)
      obtain ⟨av, cv, rfl, hcap, h0 | ⟨gn, rfl, hgl, hcn⟩⟩ := nums_own hown
      · cases h0
      have c0 : wr.cell? ⟨gn, 0, none⟩ = some (.int .i64 (u0 : Int)) := hcn 0 (by simp)
      have c1 : wr.cell? ⟨gn, 1, none⟩ = some (.int .i64 (u1 : Int)) := hcn 1 (by simp)
      have hgn : gn ∉ G := fun hm => by have h1 := own_blk hown gn rfl; have h2 := HGL.out _ hm; have h3 := HB1.out.size; omega
      have e2 : [u0, u1].length = 2 := rfl
      have hL := hide (HOK.out u0 u1 hfin)
      rw [e2] at hcap ⊢
      clear e2 hfin
      have GR := hide (fun W1 (hb : Below wr.heap.size wr W1) => refGreet HI.out ht u0 0 0 0 0 u1 W1 G (hRr.bel hb))
      unfold plH at GR
      have hX : ∀ w', Kept G wr w' → w'.cell? ⟨gn, 0, none⟩ = some (.int .i64 (u0 : Int)) ∧ w'.cell? ⟨gn, 1, none⟩ = some (.int .i64 (u1 : Int)) := fun w' hk => ⟨(hk.cell (p := ⟨gn, 0, none⟩) hgl hgn).trans c0, (hk.cell (p := ⟨gn, 1, none⟩) hgl hgn).trans c1⟩
      have HX := hide hX
      clear hX hcn hRr hBr hbw hown hgn
      go_wp2_with fail
      go_region_held3 (fun w' => w'.cell? ⟨gn, 0, none⟩ = some (.int .i64 (u0 : Int)) ∧ w'.cell? ⟨gn, 1, none⟩ = some (.int .i64 (u1 : Int))) (first | exact HX.out _ (by with_reducible assumption) | exact HX.out _ (Kept.refl _ _) | exact HX.out _ (Kept.refl _ _).drew | exact HX.out _ ((Kept.refl _ _).drewN _) | go_keep)
        (first
          | (go_at_call 19; refine (GR.out _ (by go_grown)).mono ?_; rintro e w2 hD; have HD := hide hD; obtain ⟨⟨z, rfl, ha⟩, G', hR2, hs2⟩ := hD; have hk2 : Kept G wr w2 := (by first | exact hs2.1 | exact ((Kept.refl G _).drew).trans hs2.1 | exact ((Kept.refl G _).drewN _).trans hs2.1); clear hR2 hs2 ha))
      clear hk2
      go_wp2
      go_ret
      rw [hL.out]
      exact HD.out.out (HBr.out.trans (by first | exact Below.refl _ _ | exact (Below.refl _ _).drew | exact bel_drewN (Below.refl _ _) _)) (Below.refl _ _)
set_option maxRecDepth 100000 in
set_option maxHeartbeats 8000000 in
theorem refLine_again {r : Nat} {A : Vals} {t : Nat} (hI : RI A t) (ht : t < 4000) {s : ByteArray} (hs : s.size ≤ 100000) {xs : List (List UInt8)} (hcut : cutL 32 s.data.toList = [97, 103, 97, 105, 110] :: xs) (hm : xs.length = 6) (W : World) (G : List Nat) (hR : RefAt W r 50 A G) :
    Calls Tryz.prog 9 #[.pointer (some ⟨r, 0, none⟩), .string s] W (RefPost r (lineR A s.data.toList).2 G W (lineR A s.data.toList).1) := by
  have hbad : numsL xs = none → lineR A s.data.toList = (badW, A) := fun h => line_none hcut h
  have hok : ∀ u0 u1 u2 u3 u4 u5 : Nat, numsL xs = some [u0, u1, u2, u3, u4, u5] → lineR A s.data.toList = helloR A u0 u1 u2 u3 u4 u5 := fun u0 u1 u2 u3 u4 u5 h => by rw [line_ok hcut (by rw [hm]; rfl) h]; rfl
  have SP := hide (fun W1 => refCut 32 s (by omega) W1)
  have HC := hide hcut
  obtain ⟨i0, hi, hz0, hz1, hz2⟩ := info_parts Tryz.infoInt
  have Hi0 := hide hi
  have Hz0 := hide hz0
  have Hz1 := hide hz1
  have Hz2 := hide hz2
  have HR := hide hR
  have HGL := hide hR.lt
  have HI := hide hI
  have HM := hide hm
  have HSS := hide hs
  generalize lineR A s.data.toList = L at hbad hok ⊢
  have HBAD := hide hbad
  have HOK := hide hok
  clear hbad hok hI hR hm hcut hi hz0 hz1 hz2
  go_enter Tryz.func9, Tryz.ntmps9
  go_wp2_with fail
  refine (SP.out _).mono ?_
  rintro e w1 ⟨v, ps, hps, rfl, hown, hb1⟩
  rw [HC.out] at hps
  obtain ⟨x, qs, rfl, hx, hq⟩ := cut_parts hps
  have hql : qs.length = 6 := by have h1 := HM.out; rw [← hq] at h1; simpa [wordsL] using h1
  have HY : Hid (∀ j, j < 7 → w1.cell? ⟨(rowBlk v), j, none⟩ = some (.string ((x :: qs).getD j ByteArray.empty)) ∧ ((x :: qs).getD j ByteArray.empty).size ≤ 100000) := hide (fun j hj => ⟨row_cell hown (by simp [hql]; omega), cut_size hps HC.out HSS.out rfl j (by simp [hql]; omega)⟩)
  have HTN : Hid (∀ j, 1 ≤ j → j < 7 → xs.take j = xs.take (j - 1) ++ [((x :: qs).getD j ByteArray.empty).data.toList]) := hide (fun j h1 h2 => take_next hq h1 (by omega))
  obtain ⟨g, c, hv, hgb, hgl, hnc, hcm⟩ := own_form hown (by simp)
  have eg : rowBlk v = g := by rw [hv]; rfl
  have hl : (x :: qs).length = 7 := by simp [hql]
  rw [hl] at hv
  rw [eg] at HY
  subst hv
  have q0 : w1.cell? ⟨g, 0, none⟩ = some (.string x) := (HY.out 0 (by omega)).1
  have q0r : Hid (∀ X, Below w1.heap.size w1 X → X.cell? ⟨g, 0, none⟩ = some (.string x)) := hide (fun X hX => (hX.cell (p := ⟨g, 0, none⟩) hgl).trans q0)
  have HB1 := hide hb1
  have HGG := hide hgl
  have HXE := hide hx
  obtain ⟨ys, hys⟩ : ∃ ys, ys = x :: qs := ⟨_, rfl⟩
  rw [← hys] at HY HTN
  clear hps hown hb1 hgb hgl hnc hcm eg hl hql hq hys
  subst hx
  go_wp2_with fail
  clear q0
  go_loopw [7, 8] (fun nv i wr => ∃ (j : Nat) (us : List Nat), i = .int .i64 (j : Int) ∧ 1 ≤ j ∧ j ≤ 7 ∧ Hid (numsL (xs.take (j - 1)) = some us) ∧ us.length ≤ j ∧ wr.ownsRow w1.heap.size 3 1 nv us.length (us.map (fun u : Nat => Value.int .i64 (u : Int))) ∧ Below w1.heap.size w1 wr) (fun _ i _ => 200 - (intOf i).toNat)
  case atStart => exact ⟨1, [], rfl, by omega, by omega, hide rfl, by simp, World.ownsRow_nil _ _ _ _, Below.refl _ _⟩
  case round =>
    obtain ⟨j, us, rfl, hj1, hjn, HU, hul, hown, hbw⟩ := hrel
    have HO := hide hown
    have HBW := hide hbw
    have hyr : w1.heap.size ≤ wr.heap.size := hbw.size
    by_cases hlt : j < 7
    · obtain ⟨av, cv, rfl⟩ := own_slS hown
      have qj : wr.cell? ⟨g, j, none⟩ = some (.string (ys.getD j ByteArray.empty)) := (hbw.cell (p := ⟨g, j, none⟩) HGG.out).trans (HY.out j hlt).1
      have HS := hide (HTN.out j hj1 hlt)
      have NO := hide (fun W1 => refNumber (ys.getD j ByteArray.empty) (by have := (HY.out j hlt).2; omega) W1)
      generalize ys.getD j ByteArray.empty = y at qj HS NO
      clear hown hbw
      go_wp2_with fail
      refine (NO.out _).mono ?_
      rintro e w2 ⟨⟨u, hu, rfl⟩ | ⟨hu, rfl⟩, rfl⟩
      · have HN := hide hu
        clear hu
        go_wp2_with (first | (at_builtin; refine wpList_append_own _ rfl _ _ 50 rfl (w1.heap.size) 3 i0 _ 1 8 Tryz.underlying50 Hi0.out Hz0.out Hz1.out Hz2.out rfl (by decide) _ _ _ rfl (HO.out.alloc _) ⟨wr.heap.size, 0, none⟩ 1 1 [.int .i64 (u : Int)] rfl rfl ?c1 ?c2 ?c3 ?c4 ?c5 ?_))
        case c1 =>
          intro j x hj
          cases j with
          | zero => simp at hj; subst hj; simp [Addr.add]
          | succ j => simp at hj
        case c2 => intro x hu; simp at hu; subst hu; rfl
        case c3 => unfold maxLen; omega
        case c4 => omega
        case c5 => first | omega | (simp; omega)
        intro v2 w40 hown2 hgrow _
        have hg0 : ∀ q, (Value.slice av us.length cv).ownBlock = some q → w1.heap.size ≤ q := own_blk HO.out
        have HB40 := hide (grown_below (HBW.out.alloc hyr _) hgrow hg0 (by simp; omega))
        have HO3 : Hid (w40.ownsRow w1.heap.size 3 1 v2 (us ++ [u]).length ((us ++ [u]).map (fun u : Nat => Value.int .i64 (u : Int)))) := hide (by simpa using hown2)
        clear hown2 hgrow hg0
        go_wp2
        go_roundw
        case rel => exact ⟨j + 1, us ++ [u], by go_num, by omega, by omega, hide (by rw [Nat.add_sub_cancel, HS.out, numsL_snoc, HU.out, Option.bind_some, HN.out]; rfl), by simp; omega, HO3.out, HB40.out⟩
        case measure => simp [intOf]; omega
      · have HN := hide hu
        clear hu
        go_wp2
        go_ret
        have hno : numsL xs = none := by
          cases ha : numsL xs with
          | none => rfl
          | some vs =>
            exfalso
            obtain ⟨zs, hx⟩ := numsL_take ha j
            rw [HS.out, numsL_snoc, HU.out, Option.bind_some, HN.out] at hx
            cases hx
        have hbb := HB1.out.trans (HBW.out.mono HB1.out.size)
        rw [HBAD.out hno]
        exact RefPost.mk rfl (HR.out.bel hbb) (SVst.of_below hbb) (Below.refl _ _)
    · obtain rfl : j = 7 := by omega
      have hfin : numsL xs = some us := by
        have := HU.out
        rwa [List.take_of_length_le (by rw [HM.out]; omega)] at this
      have hBr : Below W.heap.size W wr := HB1.out.trans (hbw.mono HB1.out.size)
      have HBr := hide hBr
      have hRr := HR.out.bel hBr
      have q0f := q0r.out _ hbw
      obtain ⟨u0, u1, u2, u3, u4, u5, rfl⟩ := len6 ((numsL_len _ _ hfin).trans HM.out)
      obtain ⟨av, cv, rfl, hcap, h0 | ⟨gn, rfl, hgl, hcn⟩⟩ := nums_own hown
      · cases h0
      have c0 : wr.cell? ⟨gn, 0, none⟩ = some (.int .i64 (u0 : Int)) := hcn 0 (by simp)
      have c1 : wr.cell? ⟨gn, 1, none⟩ = some (.int .i64 (u1 : Int)) := hcn 1 (by simp)
      have c2 : wr.cell? ⟨gn, 2, none⟩ = some (.int .i64 (u2 : Int)) := hcn 2 (by simp)
      have c3 : wr.cell? ⟨gn, 3, none⟩ = some (.int .i64 (u3 : Int)) := hcn 3 (by simp)
      have c4 : wr.cell? ⟨gn, 4, none⟩ = some (.int .i64 (u4 : Int)) := hcn 4 (by simp)
      have c5 : wr.cell? ⟨gn, 5, none⟩ = some (.int .i64 (u5 : Int)) := hcn 5 (by simp)
      have hgn : gn ∉ G := fun hm => by have h1 := own_blk hown gn rfl; have h2 := HGL.out _ hm; have h3 := HB1.out.size; omega
      have e2 : [u0, u1, u2, u3, u4, u5].length = 6 := rfl
      have hL := hide (HOK.out u0 u1 u2 u3 u4 u5 hfin)
      rw [e2] at hcap ⊢
      clear e2 hfin
      have GR := hide (fun W1 (hb : Below wr.heap.size wr W1) => refGreet HI.out ht u0 u1 u2 u3 u4 u5 W1 G (hRr.bel hb))
      unfold plH at GR
      have hX : ∀ w', Kept G wr w' → w'.cell? ⟨gn, 0, none⟩ = some (.int .i64 (u0 : Int)) ∧ w'.cell? ⟨gn, 1, none⟩ = some (.int .i64 (u1 : Int)) ∧ w'.cell? ⟨gn, 2, none⟩ = some (.int .i64 (u2 : Int)) ∧ w'.cell? ⟨gn, 3, none⟩ = some (.int .i64 (u3 : Int)) ∧ w'.cell? ⟨gn, 4, none⟩ = some (.int .i64 (u4 : Int)) ∧ w'.cell? ⟨gn, 5, none⟩ = some (.int .i64 (u5 : Int)) := fun w' hk => ⟨(hk.cell (p := ⟨gn, 0, none⟩) hgl hgn).trans c0, (hk.cell (p := ⟨gn, 1, none⟩) hgl hgn).trans c1, (hk.cell (p := ⟨gn, 2, none⟩) hgl hgn).trans c2, (hk.cell (p := ⟨gn, 3, none⟩) hgl hgn).trans c3, (hk.cell (p := ⟨gn, 4, none⟩) hgl hgn).trans c4, (hk.cell (p := ⟨gn, 5, none⟩) hgl hgn).trans c5⟩
      have HX := hide hX
      clear hX hcn hRr hBr hbw hown hgn
      go_wp2_with fail
      go_region_held3 (fun w' => w'.cell? ⟨gn, 0, none⟩ = some (.int .i64 (u0 : Int)) ∧ w'.cell? ⟨gn, 1, none⟩ = some (.int .i64 (u1 : Int)) ∧ w'.cell? ⟨gn, 2, none⟩ = some (.int .i64 (u2 : Int)) ∧ w'.cell? ⟨gn, 3, none⟩ = some (.int .i64 (u3 : Int)) ∧ w'.cell? ⟨gn, 4, none⟩ = some (.int .i64 (u4 : Int)) ∧ w'.cell? ⟨gn, 5, none⟩ = some (.int .i64 (u5 : Int))) (first | exact HX.out _ (by with_reducible assumption) | exact HX.out _ (Kept.refl _ _) | exact HX.out _ (Kept.refl _ _).drew | exact HX.out _ ((Kept.refl _ _).drewN _) | go_keep)
        (first
          | (go_at_call 19; refine (GR.out _ (by go_grown)).mono ?_; rintro e w2 hD; have HD := hide hD; obtain ⟨⟨z, rfl, ha⟩, G', hR2, hs2⟩ := hD; have hk2 : Kept G wr w2 := (by first | exact hs2.1 | exact ((Kept.refl G _).drew).trans hs2.1 | exact ((Kept.refl G _).drewN _).trans hs2.1); clear hR2 hs2 ha))
      clear hk2
      go_wp2
      go_ret
      rw [hL.out]
      exact HD.out.out (HBr.out.trans (by first | exact Below.refl _ _ | exact (Below.refl _ _).drew | exact bel_drewN (Below.refl _ _) _)) (Below.refl _ _)
end Go.Proofs.YtlnghfmcofmkjaaGreatDoor
