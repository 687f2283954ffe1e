/- log: Spend over a plain state. -/
import Derived.Test.YtjbpkmmpbhngbaaGreatDoorLog3
namespace Go.Proofs.YtjbpkmmpbhngbaaGreatDoor
open Go.RowKit Go.Shelf

/-- what is written of a record that is cut -/
def halfR (r : Rec) : List UInt8 := r.row.take (r.row.length / 2)
/-- spend: and its fault -/
def LS.spend (s : LS) (n u now : Int) : LS × Int :=
  if s.st = true then (s, 6) else if spMoreE s.zs n u now ≠ 0 then (s, spMoreE s.zs n u now) else if s.rs.length = 30 then (s, 4)
  else if s.left = 0 then ({ s with tl := halfR ⟨n, u, now⟩, left := -1, st := true }, 6) else ({ s with rs := s.rs ++ [⟨n, u, now⟩], left := stepL s.left, st := false }, 0)
theorem half_ten {r : Rec} (h : r.ok) : ∀ c ∈ halfR r, c ≠ 10 := by
  intro c hc
  have h1 := row_len h
  have hr : r.row.length = r.ini.length + 1 := by simp [Rec.row]
  unfold halfR at hc
  have e : r.row.take (r.row.length / 2) = r.ini.take (r.row.length / 2) := by
    unfold Rec.row
    rw [List.take_append_of_le_length (by simp; omega)]
  rw [e] at hc
  exact Rec.ini_ten h c (List.mem_of_mem_take hc)
theorem LS.ok.spend {s : LS} (h : s.ok) (n u now : Int) : (s.spend n u now).1.ok := by
  unfold LS.spend
  split
  · exact h
  · rename_i h1
    have hst : s.st = false := by
      cases hs : s.st
      · rfl
      · exact absurd hs h1
    split
    · exact h
    · rename_i h2
      have hm : spMoreE s.zs n u now = 0 := by
        rcases Classical.em (spMoreE s.zs n u now = 0) with e | e
        · exact e
        · exact absurd e h2
      have hr : (Rec.mk n u now).ok := sp_nums hm
      have ht := h.cut hst
      split
      · exact h
      · rename_i h3
        have hl := h.len
        split
        · refine ⟨h.recs, h.len, half_ten hr, (fun e => by cases e), ?_, ?_, by simp⟩
          · have := row_len hr
            show (halfR ⟨n, u, now⟩).length ≤ 21
            unfold halfR
            rw [List.length_take]
            omega
          · have h4 := h.saf
            unfold LS.bytes at h4 ⊢
            rw [ht] at h4
            simp at h4 ⊢
            omega
        · have h5 := h.lef
          refine ⟨?_, ?_, h.tail, fun _ => ht, h.short, ?_, by simp; unfold stepL; omega⟩
          · exact (okR_app _ _ _).2 ⟨h.recs, hm, trivial⟩
          · simp; omega
          · have h4 := h.saf
            unfold LS.bytes at h4 ⊢
            simp only [catR_app, List.length_append]
            simp only [List.length_append] at h4
            omega
set_option maxHeartbeats 4000000 in
theorem lgSpend_half {n u now : Int} {zs : List (Int × Int)} {b : Nat} {v : Value} {s : ByteArray} {many safe : Int} (hc : spMoreE zs n u now = 0) (hm : 0 ≤ many ∧ many < 30) (hs : s.size ≤ 1000000) (w : World) (htab : TabW w) (h : LG w b v zs s many safe 0 false) :
    Calls Tryz.prog 8 #[.pointer (some ⟨b, 0, none⟩), .int .i64 n, .int .i64 u, .int .i64 now] w fun e w' => e = .returned (.iface 54 (.int .i64 6)) ∧ LG w' b v zs (s ++ (recB n u now).extract 0 ((recB n u now).size / 2)) many safe (-1) true ∧ Kept [b] w w' := by
  obtain ⟨g1, g2, g3⟩ := sp_nums hc
  have hrs := recB_size g1 g2 g3
  have C := hide (spMore_ok hc v w h.2.1)
  have I1 := hide (fun W (hW : Below w.heap.size w W) => itoa_eq g1.1 g1.2 W (htab.next hW))
  have I2 := hide (fun W (hW : Below w.heap.size w W) => itoa_eq g2.1 g2.2 W (htab.next hW))
  have I3 := hide (fun W (hW : Below w.heap.size w W) => itoa_eq g3.1 g3.2 W (htab.next hW))
  have k1 := numB_size g1.1 g1.2
  have k2 := numB_size g2.1 g2.2
  have k3 := numB_size g3.1 g3.2
  have ST := hide (fun W (hO : LgO W b v s many safe 0 false) => lgStep (by omega) (by omega) W hO)
  have q5 := ObjAt.cell h.1 (i := 5) rfl
  have q0 := ObjAt.cell h.1 (i := 0) rfl
  have HO := hide h.1
  have HV := hide h.2
  have hbl := ObjAt.lt h.1
  have tm : (many == 30) = false := beq_eq_false_iff_ne.2 (by omega)
  have hn1 : (numB n).size ≤ 6 := k1.2
  have hn2 : (numB u).size ≤ 6 := k2.2
  have hn3 : (numB now).size ≤ 6 := k3.2
  obtain ⟨R, hR⟩ : ∃ R, R = recB n u now := ⟨_, rfl⟩
  rw [← hR] at hrs ⊢
  have HRD : Hid (((((numB n ++ ⟨#[32]⟩) ++ numB u) ++ ⟨#[32]⟩) ++ numB now) ++ ⟨#[10]⟩ = R) := hide hR.symm
  clear h hc htab g1 g2 g3 k1 k2 k3 hR
  go_enter Tryz.func8, Tryz.ntmps8
  go_wp2_with fail
  refine C.out.mono ?_
  rintro e w1 ⟨v', rfl, hown, hb1⟩
  have HO1 := hide (ObjAt.below HO.out hb1)
  have q2 := HO1.out.cell (i := 2) rfl
  clear hown q0 q5
  go_wp2_with fail
  refine (I1.out _ hb1).mono ?_
  rintro e w2 ⟨rfl, hb2⟩
  have hB2 : Below w.heap.size w w2 := hb1.trans (hb2.mono hb1.size)
  go_wp2_with fail
  refine (I2.out _ hB2).mono ?_
  rintro e w3 ⟨rfl, hb3⟩
  have hB3 : Below w.heap.size w w3 := hB2.trans (hb3.mono hB2.size)
  go_wp2_with fail
  refine (I3.out _ hB3).mono ?_
  rintro e w4 ⟨rfl, hb4⟩
  have hB4 : Below w.heap.size w w4 := hB3.trans (hb4.mono hB3.size)
  have HO4 := hide (ObjAt.below HO.out hB4)
  have HV4 := hide (HV.out.below hB4)
  clear q2 HO1
  go_wp2_with fail
  refine (ST.out _ HO4.out).mono ?_
  rintro e w5 ⟨rfl, ho5, hk5⟩
  have c1 := ObjAt.cell ho5 (i := 1) rfl
  have f1 := ObjAt.free ho5 1
  have HO5 := hide ho5
  have HV5 := hide (HV4.out.kept hk5)
  have HK5 := hide ((Kept.of_below hB4 [b]).trans hk5)
  clear ho5 hk5 HO4 HV4
  go_upto_region 10 with (fail)
  rw [HRD.out]
  go_region
  have hk : Kept [b] w5 (w5.setCell ⟨b, 1, none⟩ (.string (s ++ R.extract 0 (R.size / 2)))).drew := ((Kept.refl _ _).setCell (.inl (by simp)) _).drew
  have HF := hide (⟨⟨ObjAt.drew (HO5.out.set 1 _), HV5.out.kept hk⟩, HK5.out.trans hk⟩ : LG (w5.setCell ⟨b, 1, none⟩ (.string (s ++ R.extract 0 (R.size / 2)))).drew b v zs (s ++ R.extract 0 (R.size / 2)) many safe (stepL 0) (0 == 0) ∧ Kept [b] w (w5.setCell ⟨b, 1, none⟩ (.string (s ++ R.extract 0 (R.size / 2)))).drew)
  clear HO5 HV5 HK5 hk c1 f1
  go_wp2
  go_ret
  exact ⟨rfl, HF.out⟩
theorem rowNew.old (w w' : World) (v : Value) : rowNew w w' v v := .inl rfl
theorem lgsSpend {s : LS} (hs : s.ok) (n u now : Int) {b : Nat} {v : Value} (w : World) (htab : TabW w) (h : LgS w b v s) :
    Calls Tryz.prog 8 #[.pointer (some ⟨b, 0, none⟩), .int .i64 n, .int .i64 u, .int .i64 now] w fun e w' => ∃ v', e = .returned (errV (s.spend n u now).2) ∧ LgS w' b v' (s.spend n u now).1 ∧ rowNew w w' v v' ∧ Kept [b] w w' := by
  obtain ⟨x, h1, h3⟩ := h
  have hxs := bytes_size h3
  have hbl := hs.bytes_len
  cases hst : s.st
  · by_cases hm : spMoreE s.zs n u now = 0
    · by_cases hl : s.rs.length = 30
      · have e : s.spend n u now = (s, 4) := by unfold LS.spend; rw [if_neg (by simp [hst]), if_neg (by simp [hm]), if_pos hl]
        rw [e]
        have h1' := h1
        rw [hst, hl] at h1'
        refine (lgSpend_full hm w h1').mono ?_
        rintro e' w' ⟨rfl, hb⟩
        exact ⟨v, rfl, ⟨x, h1.below hb, h3⟩, .inl rfl, Kept.of_below hb _⟩
      · have hlen := hs.len
        have ht := hs.cut hst
        by_cases h0 : s.left = 0
        · have e : s.spend n u now = ({ s with tl := halfR ⟨n, u, now⟩, left := -1, st := true }, 6) := by unfold LS.spend; rw [if_neg (by simp [hst]), if_neg (by simp [hm]), if_neg hl, if_pos h0]
          rw [e]
          have h1' := h1
          rw [hst, h0] at h1'
          refine (lgSpend_half hm (by omega) (by omega) w htab h1').mono ?_
          rintro e' w' ⟨rfl, hg, hk⟩
          refine ⟨v, rfl, ⟨x ++ (recB n u now).extract 0 ((recB n u now).size / 2), hg, ?_⟩, .inl rfl, hk⟩
          have hr : (recB n u now).size = (Rec.mk n u now).row.length := bytes_size (recB_list n u now)
          have e2 : ((recB n u now).extract 0 ((recB n u now).size / 2)).data.toList = halfR ⟨n, u, now⟩ := by
            unfold halfR
            rw [← hr]
            simp [recB_list]
          simp only [ByteArray.data_append, Array.toList_append]
          rw [h3, e2]
          unfold LS.bytes
          rw [ht]
          simp
        · have e : s.spend n u now = ({ s with rs := s.rs ++ [⟨n, u, now⟩], left := stepL s.left, st := false }, 0) := by unfold LS.spend; rw [if_neg (by simp [hst]), if_neg (by simp [hm]), if_neg hl, if_neg h0]
          rw [e]
          have h1' := h1
          rw [hst] at h1'
          have hz : s.zs.length ≤ 999 := by have := okR_len _ _ (by simp) hs.recs; unfold LS.zs; omega
          refine (lgSpend_ok rfl hm hz (by omega) hs.lef.1 hs.lef.2 h0 rfl (by omega) rfl w htab h1').mono ?_
          rintro e' w' ⟨rfl, v', hg, hv, hk⟩
          refine ⟨v', rfl, ⟨x ++ recB n u now, ?_, ?_⟩, .inr hv, hk⟩
          · have e3 : LS.zs { s with rs := s.rs ++ [⟨n, u, now⟩], left := stepL s.left, st := false } = spDrop s.zs now ++ [(n, u)] := by unfold LS.zs; simp only; rw [moreR_app]; rfl
            rw [e3]
            have e4 : ((s.rs ++ [⟨n, u, now⟩] : List Rec).length : Int) = (s.rs.length : Int) + 1 := by simp
            show LG _ _ _ _ _ ((s.rs ++ [⟨n, u, now⟩] : List Rec).length : Int) _ _ _
            rw [e4]
            exact hg
          · simp only [ByteArray.data_append, Array.toList_append]
            rw [h3, recB_list]
            unfold LS.bytes
            simp only [catR_app]
            rw [ht]
            simp [catR]
    · have e : s.spend n u now = (s, spMoreE s.zs n u now) := by unfold LS.spend; rw [if_neg (by simp [hst]), if_pos hm]
      rw [e]
      have h1' := h1
      rw [hst] at h1'
      refine (lgSpend_bad rfl hm w h1').mono ?_
      rintro e' w' ⟨rfl, hb⟩
      exact ⟨v, rfl, ⟨x, h1.below hb, h3⟩, .inl rfl, Kept.of_below hb _⟩
  · have e : s.spend n u now = (s, 6) := by unfold LS.spend; rw [if_pos hst]
    rw [e]
    have h1' := h1
    rw [hst] at h1'
    refine (lgSpend_stop w h1'.1).mono ?_
    rintro e' w' ⟨rfl, rfl⟩
    exact ⟨v, rfl, ⟨x, h1, h3⟩, .inl rfl, Kept.refl _ _⟩
end Go.Proofs.YtjbpkmmpbhngbaaGreatDoor
