/- foldref2.Server: Line by contract. -/
import Derived.Test.YtlnghfmcofmkjaaGreatDoorRefLine2
namespace Go.Proofs.YtlnghfmcofmkjaaGreatDoor
open Go.RowKit

set_option maxRecDepth 100000 in
set_option maxHeartbeats 4000000 in
theorem refMany_hello {r : Nat} {A : Vals} {s : ByteArray} (hs : s.size ≤ 100000) {xs : List (List UInt8)} (hcut : cutL 32 s.data.toList = [104, 101, 108, 108, 111] :: xs) (hm : xs.length ≠ 2) (W : World) (G : List Nat) (hR : RefAt W r 50 A G) :
    Calls Tryz.prog 9 #[.pointer (some ⟨r, 0, none⟩), .string s] W (RefPost r (lineR A s.data.toList).2 G W (lineR A s.data.toList).1) := by
  have HBAD := hide (line_many (A := A) hcut (show wantsL _ = some 2 by rfl) hm)
  have HC := hide hcut
  have SP := hide (fun W1 => refCut 32 s (by omega) W1)
  have HR := hide hR
  have HM := hide hm
  generalize lineR A s.data.toList = L at HBAD ⊢
  clear hR hm hcut
  go_enter Tryz.func9, Tryz.ntmps9
  go_wp2_with fail
  refine (SP.out _).mono ?_
  rintro e w1 ⟨v, ps, hps, rfl, hown, hb1⟩
  rw [HC.out] at hps
  obtain ⟨x, qs, rfl, hx, hq⟩ := cut_parts hps
  have hql : qs.length ≠ 2 := by have h1 := HM.out; rw [← hq] at h1; simpa [wordsL] using h1
  obtain ⟨k, hk⟩ : ∃ k, k = qs.length := ⟨_, rfl⟩
  have hown2 := hown
  have hl : (x :: qs).length = k + 1 := by rw [hk]; rfl
  rw [hl] at hown2
  obtain ⟨g, c, hv, hgb, hgl, hnc, hcm⟩ := own_form hown2 (by omega)
  have eg : rowBlk v = g := by rw [hv]; rfl
  have q0 : w1.cell? ⟨rowBlk v, 0, none⟩ = some (.string x) := row_cell hown (j := 0) (by simp)
  rw [eg] at q0
  rw [← hk] at hql
  have HB1 := hide hb1
  have hne : (((k + 1 : Nat) : Int) - 1 != 2) = true := bne_iff_ne.2 (by omega)
  have hkm : k + 1 ≤ maxLen := by omega
  unfold maxLen at hkm
  clear hps hown hown2 hb1 hgb hgl hnc hcm eg hl hql hq hk
  subst hv
  subst hx
  go_wp2
  go_ret
  rw [HBAD.out]
  exact RefPost.mk rfl (HR.out.bel HB1.out) (SVst.of_below HB1.out) (Below.refl _ _)
set_option maxRecDepth 100000 in
set_option maxHeartbeats 4000000 in
theorem refMany_again {r : Nat} {A : Vals} {s : ByteArray} (hs : s.size ≤ 100000) {xs : List (List UInt8)} (hcut : cutL 32 s.data.toList = [97, 103, 97, 105, 110] :: xs) (hm : xs.length ≠ 6) (W : World) (G : List Nat) (hR : RefAt W r 50 A G) :
    Calls Tryz.prog 9 #[.pointer (some ⟨r, 0, none⟩), .string s] W (RefPost r (lineR A s.data.toList).2 G W (lineR A s.data.toList).1) := by
  have HBAD := hide (line_many (A := A) hcut (show wantsL _ = some 6 by rfl) hm)
  have HC := hide hcut
  have SP := hide (fun W1 => refCut 32 s (by omega) W1)
  have HR := hide hR
  have HM := hide hm
  generalize lineR A s.data.toList = L at HBAD ⊢
  clear hR hm hcut
  go_enter Tryz.func9, Tryz.ntmps9
  go_wp2_with fail
  refine (SP.out _).mono ?_
  rintro e w1 ⟨v, ps, hps, rfl, hown, hb1⟩
  rw [HC.out] at hps
  obtain ⟨x, qs, rfl, hx, hq⟩ := cut_parts hps
  have hql : qs.length ≠ 6 := by have h1 := HM.out; rw [← hq] at h1; simpa [wordsL] using h1
  obtain ⟨k, hk⟩ : ∃ k, k = qs.length := ⟨_, rfl⟩
  have hown2 := hown
  have hl : (x :: qs).length = k + 1 := by rw [hk]; rfl
  rw [hl] at hown2
  obtain ⟨g, c, hv, hgb, hgl, hnc, hcm⟩ := own_form hown2 (by omega)
  have eg : rowBlk v = g := by rw [hv]; rfl
  have q0 : w1.cell? ⟨rowBlk v, 0, none⟩ = some (.string x) := row_cell hown (j := 0) (by simp)
  rw [eg] at q0
  rw [← hk] at hql
  have HB1 := hide hb1
  have hne : (((k + 1 : Nat) : Int) - 1 != 6) = true := bne_iff_ne.2 (by omega)
  have hkm : k + 1 ≤ maxLen := by omega
  unfold maxLen at hkm
  clear hps hown hown2 hb1 hgb hgl hnc hcm eg hl hql hq hk
  subst hv
  subst hx
  go_wp2
  go_ret
  rw [HBAD.out]
  exact RefPost.mk rfl (HR.out.bel HB1.out) (SVst.of_below HB1.out) (Below.refl _ _)
set_option maxRecDepth 100000 in
set_option maxHeartbeats 4000000 in
theorem refMany_ticket {r : Nat} {A : Vals} {s : ByteArray} (hs : s.size ≤ 100000) {xs : List (List UInt8)} (hcut : cutL 32 s.data.toList = [116, 105, 99, 107, 101, 116] :: xs) (hm : xs.length ≠ 1) (W : World) (G : List Nat) (hR : RefAt W r 50 A G) :
    Calls Tryz.prog 9 #[.pointer (some ⟨r, 0, none⟩), .string s] W (RefPost r (lineR A s.data.toList).2 G W (lineR A s.data.toList).1) := by
  have HBAD := hide (line_many (A := A) hcut (show wantsL _ = some 1 by rfl) hm)
  have HC := hide hcut
  have SP := hide (fun W1 => refCut 32 s (by omega) W1)
  have HR := hide hR
  have HM := hide hm
  generalize lineR A s.data.toList = L at HBAD ⊢
  clear hR hm hcut
  go_enter Tryz.func9, Tryz.ntmps9
  go_wp2_with fail
  refine (SP.out _).mono ?_
  rintro e w1 ⟨v, ps, hps, rfl, hown, hb1⟩
  rw [HC.out] at hps
  obtain ⟨x, qs, rfl, hx, hq⟩ := cut_parts hps
  have hql : qs.length ≠ 1 := by have h1 := HM.out; rw [← hq] at h1; simpa [wordsL] using h1
  obtain ⟨k, hk⟩ : ∃ k, k = qs.length := ⟨_, rfl⟩
  have hown2 := hown
  have hl : (x :: qs).length = k + 1 := by rw [hk]; rfl
  rw [hl] at hown2
  obtain ⟨g, c, hv, hgb, hgl, hnc, hcm⟩ := own_form hown2 (by omega)
  have eg : rowBlk v = g := by rw [hv]; rfl
  have q0 : w1.cell? ⟨rowBlk v, 0, none⟩ = some (.string x) := row_cell hown (j := 0) (by simp)
  rw [eg] at q0
  rw [← hk] at hql
  have HB1 := hide hb1
  have hne : (((k + 1 : Nat) : Int) - 1 != 1) = true := bne_iff_ne.2 (by omega)
  have hkm : k + 1 ≤ maxLen := by omega
  unfold maxLen at hkm
  clear hps hown hown2 hb1 hgb hgl hnc hcm eg hl hql hq hk
  subst hv
  subst hx
  go_wp2
  go_ret
  rw [HBAD.out]
  exact RefPost.mk rfl (HR.out.bel HB1.out) (SVst.of_below HB1.out) (Below.refl _ _)
set_option maxRecDepth 100000 in
set_option maxHeartbeats 4000000 in
theorem refMany_pull {r : Nat} {A : Vals} {s : ByteArray} (hs : s.size ≤ 100000) {xs : List (List UInt8)} (hcut : cutL 32 s.data.toList = [112, 117, 108, 108] :: xs) (hm : xs.length ≠ 0) (W : World) (G : List Nat) (hR : RefAt W r 50 A G) :
    Calls Tryz.prog 9 #[.pointer (some ⟨r, 0, none⟩), .string s] W (RefPost r (lineR A s.data.toList).2 G W (lineR A s.data.toList).1) := by
  have HBAD := hide (line_many (A := A) hcut (show wantsL _ = some 0 by rfl) hm)
  have HC := hide hcut
  have SP := hide (fun W1 => refCut 32 s (by omega) W1)
  have HR := hide hR
  have HM := hide hm
  generalize lineR A s.data.toList = L at HBAD ⊢
  clear hR hm hcut
  go_enter Tryz.func9, Tryz.ntmps9
  go_wp2_with fail
  refine (SP.out _).mono ?_
  rintro e w1 ⟨v, ps, hps, rfl, hown, hb1⟩
  rw [HC.out] at hps
  obtain ⟨x, qs, rfl, hx, hq⟩ := cut_parts hps
  have hql : qs.length ≠ 0 := by have h1 := HM.out; rw [← hq] at h1; simpa [wordsL] using h1
  obtain ⟨k, hk⟩ : ∃ k, k = qs.length := ⟨_, rfl⟩
  have hown2 := hown
  have hl : (x :: qs).length = k + 1 := by rw [hk]; rfl
  rw [hl] at hown2
  obtain ⟨g, c, hv, hgb, hgl, hnc, hcm⟩ := own_form hown2 (by omega)
  have eg : rowBlk v = g := by rw [hv]; rfl
  have q0 : w1.cell? ⟨rowBlk v, 0, none⟩ = some (.string x) := row_cell hown (j := 0) (by simp)
  rw [eg] at q0
  rw [← hk] at hql
  have HB1 := hide hb1
  have hne : (((k + 1 : Nat) : Int) - 1 != 0) = true := bne_iff_ne.2 (by omega)
  have hkm : k + 1 ≤ maxLen := by omega
  unfold maxLen at hkm
  clear hps hown hown2 hb1 hgb hgl hnc hcm eg hl hql hq hk
  subst hv
  subst hx
  go_wp2
  go_ret
  rw [HBAD.out]
  exact RefPost.mk rfl (HR.out.bel HB1.out) (SVst.of_below HB1.out) (Below.refl _ _)
set_option maxRecDepth 100000 in
set_option maxHeartbeats 4000000 in
theorem refMany_turn {r : Nat} {A : Vals} {s : ByteArray} (hs : s.size ≤ 100000) {xs : List (List UInt8)} (hcut : cutL 32 s.data.toList = [116, 117, 114, 110] :: xs) (hm : xs.length ≠ 0) (W : World) (G : List Nat) (hR : RefAt W r 50 A G) :
    Calls Tryz.prog 9 #[.pointer (some ⟨r, 0, none⟩), .string s] W (RefPost r (lineR A s.data.toList).2 G W (lineR A s.data.toList).1) := by
  have HBAD := hide (line_many (A := A) hcut (show wantsL _ = some 0 by rfl) hm)
  have HC := hide hcut
  have SP := hide (fun W1 => refCut 32 s (by omega) W1)
  have HR := hide hR
  have HM := hide hm
  generalize lineR A s.data.toList = L at HBAD ⊢
  clear hR hm hcut
  go_enter Tryz.func9, Tryz.ntmps9
  go_wp2_with fail
  refine (SP.out _).mono ?_
  rintro e w1 ⟨v, ps, hps, rfl, hown, hb1⟩
  rw [HC.out] at hps
  obtain ⟨x, qs, rfl, hx, hq⟩ := cut_parts hps
  have hql : qs.length ≠ 0 := by have h1 := HM.out; rw [← hq] at h1; simpa [wordsL] using h1
  obtain ⟨k, hk⟩ : ∃ k, k = qs.length := ⟨_, rfl⟩
  have hown2 := hown
  have hl : (x :: qs).length = k + 1 := by rw [hk]; rfl
  rw [hl] at hown2
  obtain ⟨g, c, hv, hgb, hgl, hnc, hcm⟩ := own_form hown2 (by omega)
  have eg : rowBlk v = g := by rw [hv]; rfl
  have q0 : w1.cell? ⟨rowBlk v, 0, none⟩ = some (.string x) := row_cell hown (j := 0) (by simp)
  rw [eg] at q0
  rw [← hk] at hql
  have HB1 := hide hb1
  have hne : (((k + 1 : Nat) : Int) - 1 != 0) = true := bne_iff_ne.2 (by omega)
  have hkm : k + 1 ≤ maxLen := by omega
  unfold maxLen at hkm
  clear hps hown hown2 hb1 hgb hgl hnc hcm eg hl hql hq hk
  subst hv
  subst hx
  go_wp2
  go_ret
  rw [HBAD.out]
  exact RefPost.mk rfl (HR.out.bel HB1.out) (SVst.of_below HB1.out) (Below.refl _ _)
set_option maxRecDepth 100000 in
set_option maxHeartbeats 4000000 in
theorem refMany_crash {r : Nat} {A : Vals} {s : ByteArray} (hs : s.size ≤ 100000) {xs : List (List UInt8)} (hcut : cutL 32 s.data.toList = [99, 114, 97, 115, 104] :: xs) (hm : xs.length ≠ 0) (W : World) (G : List Nat) (hR : RefAt W r 50 A G) :
    Calls Tryz.prog 9 #[.pointer (some ⟨r, 0, none⟩), .string s] W (RefPost r (lineR A s.data.toList).2 G W (lineR A s.data.toList).1) := by
  have HBAD := hide (line_many (A := A) hcut (show wantsL _ = some 0 by rfl) hm)
  have HC := hide hcut
  have SP := hide (fun W1 => refCut 32 s (by omega) W1)
  have HR := hide hR
  have HM := hide hm
  generalize lineR A s.data.toList = L at HBAD ⊢
  clear hR hm hcut
  go_enter Tryz.func9, Tryz.ntmps9
  go_wp2_with fail
  refine (SP.out _).mono ?_
  rintro e w1 ⟨v, ps, hps, rfl, hown, hb1⟩
  rw [HC.out] at hps
  obtain ⟨x, qs, rfl, hx, hq⟩ := cut_parts hps
  have hql : qs.length ≠ 0 := by have h1 := HM.out; rw [← hq] at h1; simpa [wordsL] using h1
  obtain ⟨k, hk⟩ : ∃ k, k = qs.length := ⟨_, rfl⟩
  have hown2 := hown
  have hl : (x :: qs).length = k + 1 := by rw [hk]; rfl
  rw [hl] at hown2
  obtain ⟨g, c, hv, hgb, hgl, hnc, hcm⟩ := own_form hown2 (by omega)
  have eg : rowBlk v = g := by rw [hv]; rfl
  have q0 : w1.cell? ⟨rowBlk v, 0, none⟩ = some (.string x) := row_cell hown (j := 0) (by simp)
  rw [eg] at q0
  rw [← hk] at hql
  have HB1 := hide hb1
  have hne : (((k + 1 : Nat) : Int) - 1 != 0) = true := bne_iff_ne.2 (by omega)
  have hkm : k + 1 ≤ maxLen := by omega
  unfold maxLen at hkm
  clear hps hown hown2 hb1 hgb hgl hnc hcm eg hl hql hq hk
  subst hv
  subst hx
  go_wp2
  go_ret
  rw [HBAD.out]
  exact RefPost.mk rfl (HR.out.bel HB1.out) (SVst.of_below HB1.out) (Below.refl _ _)
set_option maxRecDepth 100000 in
set_option maxHeartbeats 4000000 in
theorem refMany_wait {r : Nat} {A : Vals} {s : ByteArray} (hs : s.size ≤ 100000) {xs : List (List UInt8)} (hcut : cutL 32 s.data.toList = [119, 97, 105, 116, 105, 110, 103] :: xs) (hm : xs.length ≠ 0) (W : World) (G : List Nat) (hR : RefAt W r 50 A G) :
    Calls Tryz.prog 9 #[.pointer (some ⟨r, 0, none⟩), .string s] W (RefPost r (lineR A s.data.toList).2 G W (lineR A s.data.toList).1) := by
  have HBAD := hide (line_many (A := A) hcut (show wantsL _ = some 0 by rfl) hm)
  have HC := hide hcut
  have SP := hide (fun W1 => refCut 32 s (by omega) W1)
  have HR := hide hR
  have HM := hide hm
  generalize lineR A s.data.toList = L at HBAD ⊢
  clear hR hm hcut
  go_enter Tryz.func9, Tryz.ntmps9
  go_wp2_with fail
  refine (SP.out _).mono ?_
  rintro e w1 ⟨v, ps, hps, rfl, hown, hb1⟩
  rw [HC.out] at hps
  obtain ⟨x, qs, rfl, hx, hq⟩ := cut_parts hps
  have hql : qs.length ≠ 0 := by have h1 := HM.out; rw [← hq] at h1; simpa [wordsL] using h1
  obtain ⟨k, hk⟩ : ∃ k, k = qs.length := ⟨_, rfl⟩
  have hown2 := hown
  have hl : (x :: qs).length = k + 1 := by rw [hk]; rfl
  rw [hl] at hown2
  obtain ⟨g, c, hv, hgb, hgl, hnc, hcm⟩ := own_form hown2 (by omega)
  have eg : rowBlk v = g := by rw [hv]; rfl
  have q0 : w1.cell? ⟨rowBlk v, 0, none⟩ = some (.string x) := row_cell hown (j := 0) (by simp)
  rw [eg] at q0
  rw [← hk] at hql
  have HB1 := hide hb1
  have hne : (((k + 1 : Nat) : Int) - 1 != 0) = true := bne_iff_ne.2 (by omega)
  have hkm : k + 1 ≤ maxLen := by omega
  unfold maxLen at hkm
  clear hps hown hown2 hb1 hgb hgl hnc hcm eg hl hql hq hk
  subst hv
  subst hx
  go_wp2
  go_ret
  rw [HBAD.out]
  exact RefPost.mk rfl (HR.out.bel HB1.out) (SVst.of_below HB1.out) (Below.refl _ _)
theorem word_ne {x : ByteArray} {l : List UInt8} (h : x.data.toList ≠ l) : (x.toList == l) = false := by
  refine beq_eq_false_iff_ne.2 (fun e => h ?_)
  rw [ByteArray.toList_eq] at e
  exact e
theorem wants_none {w : List UInt8} (h : wantsL w = none) : w ≠ [104, 101, 108, 108, 111] ∧ w ≠ [97, 103, 97, 105, 110] ∧ w ≠ [116, 105, 99, 107, 101, 116] ∧ w ≠ [112, 117, 108, 108] ∧ w ≠ [116, 117, 114, 110] ∧ w ≠ [99, 114, 97, 115, 104] ∧ w ≠ [119, 97, 105, 116, 105, 110, 103] := by
  refine ⟨?_, ?_, ?_, ?_, ?_, ?_, ?_⟩
  all_goals
    rintro rfl
    cases h
set_option maxRecDepth 100000 in
set_option maxHeartbeats 4000000 in
theorem refUnknown {r : Nat} {A : Vals} {s : ByteArray} (hs : s.size ≤ 100000) {w : List UInt8} {xs : List (List UInt8)} (hcut : cutL 32 s.data.toList = w :: xs) (hw : wantsL w = none) (W : World) (G : List Nat) (hR : RefAt W r 50 A G) :
    Calls Tryz.prog 9 #[.pointer (some ⟨r, 0, none⟩), .string s] W (RefPost r (lineR A s.data.toList).2 G W (lineR A s.data.toList).1) := by
  have HBAD := hide (line_unknown (A := A) hcut hw)
  have HC := hide hcut
  have SP := hide (fun W1 => refCut 32 s (by omega) W1)
  have HR := hide hR
  generalize lineR A s.data.toList = L at HBAD ⊢
  clear hR hcut
  go_enter Tryz.func9, Tryz.ntmps9
  go_wp2_with fail
  refine (SP.out _).mono ?_
  rintro e w1 ⟨v, ps, hps, rfl, hown, hb1⟩
  rw [HC.out] at hps
  obtain ⟨x, qs, rfl, hx, hq⟩ := cut_parts hps
  have hxl : x.data.toList = w := by rw [hx]
  obtain ⟨n1, n2, n3, n4, n5, n6, n7⟩ := wants_none hw
  rw [← hxl] at n1 n2 n3 n4 n5 n6 n7
  have m1 := word_ne n1
  have m2 := word_ne n2
  have m3 := word_ne n3
  have m4 := word_ne n4
  have m5 := word_ne n5
  have m6 := word_ne n6
  have m7 := word_ne n7
  obtain ⟨k, hk⟩ : ∃ k, k = qs.length := ⟨_, rfl⟩
  have hown2 := hown
  have hl : (x :: qs).length = k + 1 := by rw [hk]; rfl
  rw [hl] at hown2
  obtain ⟨g, c, hv, hgb, hgl, hnc, hcm⟩ := own_form hown2 (by omega)
  have eg : rowBlk v = g := by rw [hv]; rfl
  have q0 : w1.cell? ⟨rowBlk v, 0, none⟩ = some (.string x) := row_cell hown (j := 0) (by simp)
  rw [eg] at q0
  have HB1 := hide hb1
  have hne : ((k : Int) != -1) = true := bne_iff_ne.2 (by omega)
  have hkm : k + 1 ≤ maxLen := by omega
  unfold maxLen at hkm
  clear hps hown hown2 hb1 hgb hgl hnc hcm eg hl hq hk n1 n2 n3 n4 n5 n6 n7 hxl hx hw
  subst hv
  go_wp2
  go_ret
  rw [HBAD.out]
  exact RefPost.mk rfl (HR.out.bel HB1.out) (SVst.of_below HB1.out) (Below.refl _ _)
/-- a line -/
theorem refLine {r : Nat} {A : Vals} {t : Nat} (hI : RI A t) (ht : t < 4000) {s : ByteArray} (hs : s.size ≤ 100000) (W : World) (G : List Nat) (hR : RefAt W r 50 A G) :
    Calls Tryz.prog 9 #[.pointer (some ⟨r, 0, none⟩), .string s] W (RefPost r (lineR A s.data.toList).2 G W (lineR A s.data.toList).1) := by
  cases hcut : cutL 32 s.data.toList with
  | nil => exact absurd hcut (cutL_ne 32 _)
  | cons w xs =>
    cases hw : wantsL w with
    | none => exact refUnknown hs hcut hw W G hR
    | some m =>
      rcases wants_len hw with ⟨rfl, rfl⟩ | ⟨rfl, rfl⟩ | ⟨rfl, rfl⟩ | ⟨rfl, rfl⟩ | ⟨rfl, rfl⟩ | ⟨rfl, rfl⟩ | ⟨rfl, rfl⟩
      · by_cases hm : xs.length = 2
        · exact refLine_hello hI ht hs hcut hm W G hR
        · exact refMany_hello hs hcut hm W G hR
      · by_cases hm : xs.length = 6
        · exact refLine_again hI ht hs hcut hm W G hR
        · exact refMany_again hs hcut hm W G hR
      · by_cases hm : xs.length = 1
        · exact refLine_ticket hI ht hs hcut hm W G hR
        · exact refMany_ticket hs hcut hm W G hR
      · by_cases hm : xs.length = 0
        · exact refLine_pull hI ht hs hcut hm W G hR
        · exact refMany_pull hs hcut hm W G hR
      · by_cases hm : xs.length = 0
        · exact refLine_turn hI ht hs hcut hm W G hR
        · exact refMany_turn hs hcut hm W G hR
      · by_cases hm : xs.length = 0
        · exact refLine_crash hI ht hs hcut hm W G hR
        · exact refMany_crash hs hcut hm W G hR
      · by_cases hm : xs.length = 0
        · exact refLine_wait hI ht hs hcut hm W G hR
        · exact refMany_wait hs hcut hm W G hR
end Go.Proofs.YtlnghfmcofmkjaaGreatDoor
