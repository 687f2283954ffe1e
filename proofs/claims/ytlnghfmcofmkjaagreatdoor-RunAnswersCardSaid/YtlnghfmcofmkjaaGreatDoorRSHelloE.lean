/- foldref2.Server: Hello by contracts, where early bytes may be taken. -/
import Derived.Test.YtlnghfmcofmkjaaGreatDoorRSHelloW
namespace Go.Proofs.YtlnghfmcofmkjaaGreatDoor
open Go.RowKit

theorem rs_ownnew {w0 W w7 : World} {size n : Nat} {e : TypeId} {v : Value} {xs : List Value} (h : w7.ownsRow W.heap.size e size v n xs) (hs : w0.heap.size ≤ W.heap.size) : ∀ g, v.ownBlock = some g → w0.heap.size ≤ g ∧ g < w7.heap.size := fun g hg => by
  have := h.lt g hg
  omega
set_option maxRecDepth 100000 in
set_option maxHeartbeats 8000000 in
theorem rsHelloE_no {a t0 t1 t2 t3 u0 u1 u2 u3 : Int} {s : ByteArray} {now : Int} {b : Nat} {e k o li n m cn : Int} {v vn vk : Value} {zs z1 z2 : List (Int × Int)} {ns : List (Int × Int)} {c : Int} (hsz : s.size ≤ 9223372036854775807) (hA : ansN e k o a t0 t1 t2 t3 u0 u1 u2 u3 s (zs.length : Int) now li = (1, true, 0)) (hns : zs ++ [(0, cn)] = ns) (hc : offE zs 0 cn = 0) (hcn : 0 ≤ cn ∧ cn < 4096) (h16 : z1.length ≤ 16) (hsp : spMoreE z1 u1 u2 now = c) (hsc : c ≠ 0) (w : World) (h : RV w b e k o li n m cn v vn vk zs z1 z2) :
    Calls Tryz.prog 39 #[.pointer (some ⟨b, 0, none⟩), .agg #[.int .i64 a, .int .i64 t0, .int .i64 t1, .int .i64 t2, .int .i64 t3, .int .i64 u0, .int .i64 u1, .int .i64 u2, .int .i64 u3, .string s], .int .i64 now] w fun r w' => r = .returned (.tuple #[.agg #[.int .i64 1, .int .i64 0, .int .i64 0, .int .i64 0, .int .i64 0, .int .i64 0, .int .i64 cn, .bool false], .int .i64 0]) ∧ ∃ v', RV w' b e k o li n m (cn + 1) v' vn vk ns z1 z2 ∧ SVst (rvF b v vn vk) (rvF b v' vn vk) w w' := by
  have OF := hide (fun W (hq : RQ (rvC e k o li n m (cn + 1) vn vk) W b v zs) => rsOffer_ok hns hc b v W hq)
  clear hns hc
  have SP := hide (fun W (hp : PSl W vn z1) => rSpend_bad h16 hsp hsc vn W hp)
  have tc0 : (c == 0) = false := beq_eq_false_iff_ne.2 hsc
  clear h16 hsp hsc
  have hbl := h.q.1.lt
  obtain ⟨av, cv, rfl⟩ := qrow_form h.q.2.1
  have hzl : zs.length ≤ 900 := h.q.2.1.1
  have hFl := h.lt
  have JA := hide (fun W => rAnswer (wt := (zs.length : Int)) hsz hA W)
  have hA1 : Below w.heap.size w ((w.alloc (.cells #[.int .i64 a, .int .i64 t0, .int .i64 t1, .int .i64 t2, .int .i64 t3, .int .i64 u0, .int .i64 u1, .int .i64 u2, .int .i64 u3, .string s] 69)).alloc (.cells #[.int .i64 0, .int .i64 0, .int .i64 0, .int .i64 0, .int .i64 0, .int .i64 0, .int .i64 0, .bool false] 101)) := ((Below.refl _ _).alloc (Nat.le_refl _) _).alloc (by simp) _
  have hoH : ObjAt ((w.alloc (.cells #[.int .i64 a, .int .i64 t0, .int .i64 t1, .int .i64 t2, .int .i64 t3, .int .i64 u0, .int .i64 u1, .int .i64 u2, .int .i64 u3, .string s] 69)).alloc (.cells #[.int .i64 0, .int .i64 0, .int .i64 0, .int .i64 0, .int .i64 0, .int .i64 0, .int .i64 0, .bool false] 101)) w.heap.size 69 [.int .i64 a, .int .i64 t0, .int .i64 t1, .int .i64 t2, .int .i64 t3, .int .i64 u0, .int .i64 u1, .int .i64 u2, .int .i64 u3, .string s] := (ObjAt.new _ _ _).alloc _
  have hoR : ObjAt ((w.alloc (.cells #[.int .i64 a, .int .i64 t0, .int .i64 t1, .int .i64 t2, .int .i64 t3, .int .i64 u0, .int .i64 u1, .int .i64 u2, .int .i64 u3, .string s] 69)).alloc (.cells #[.int .i64 0, .int .i64 0, .int .i64 0, .int .i64 0, .int .i64 0, .int .i64 0, .int .i64 0, .bool false] 101)) (w.heap.size + 1) 101 [.int .i64 0, .int .i64 0, .int .i64 0, .int .i64 0, .int .i64 0, .int .i64 0, .int .i64 0, .bool false] := objNew (by simp)
  have hV1 := h.below hA1
  obtain ⟨W1, hW1⟩ : ∃ W1, W1 = ((w.alloc (.cells #[.int .i64 a, .int .i64 t0, .int .i64 t1, .int .i64 t2, .int .i64 t3, .int .i64 u0, .int .i64 u1, .int .i64 u2, .int .i64 u3, .string s] 69)).alloc (.cells #[.int .i64 0, .int .i64 0, .int .i64 0, .int .i64 0, .int .i64 0, .int .i64 0, .int .i64 0, .bool false] 101)) := ⟨_, rfl⟩
  have hz1 : W1.heap.size = w.heap.size + 2 := by rw [hW1]; simp
  rw [← hW1] at hA1 hoH hoR hV1
  have HOR := hide hoR
  have HOH := hide hoH
  have HV1 := hide hV1
  have HKS : Hid (∀ w' : World, Below W1.heap.size W1 w' → w'.cell? ⟨b, 0, none⟩ = some (.int .i64 e) ∧ w'.cell? ⟨b, 1, none⟩ = some (.int .i64 k) ∧ w'.cell? ⟨b, 2, none⟩ = some (.int .i64 o) ∧ w'.cell? ⟨b, 3, none⟩ = some (.int .i64 li) ∧ w'.cell? ⟨b, 4, none⟩ = some (.slice av zs.length cv) ∧ w'.cell? ⟨w.heap.size, 0, none⟩ = some (.int .i64 a) ∧ w'.cell? ⟨w.heap.size, 1, none⟩ = some (.int .i64 t0) ∧ w'.cell? ⟨w.heap.size, 2, none⟩ = some (.int .i64 t1) ∧ w'.cell? ⟨w.heap.size, 3, none⟩ = some (.int .i64 t2) ∧ w'.cell? ⟨w.heap.size, 4, none⟩ = some (.int .i64 t3) ∧ w'.cell? ⟨w.heap.size, 5, none⟩ = some (.int .i64 u0) ∧ w'.cell? ⟨w.heap.size, 6, none⟩ = some (.int .i64 u1) ∧ w'.cell? ⟨w.heap.size, 7, none⟩ = some (.int .i64 u2) ∧ w'.cell? ⟨w.heap.size, 8, none⟩ = some (.int .i64 u3) ∧ w'.cell? ⟨w.heap.size, 9, none⟩ = some (.string s)) := fun w' hB => ⟨(HV1.out.below hB).q.1.cell (i := 0) rfl, (HV1.out.below hB).q.1.cell (i := 1) rfl, (HV1.out.below hB).q.1.cell (i := 2) rfl, (HV1.out.below hB).q.1.cell (i := 3) rfl, (HV1.out.below hB).q.1.cell (i := 4) rfl, (HOH.out.below hB).cell (i := 0) rfl, (HOH.out.below hB).cell (i := 1) rfl, (HOH.out.below hB).cell (i := 2) rfl, (HOH.out.below hB).cell (i := 3) rfl, (HOH.out.below hB).cell (i := 4) rfl, (HOH.out.below hB).cell (i := 5) rfl, (HOH.out.below hB).cell (i := 6) rfl, (HOH.out.below hB).cell (i := 7) rfl, (HOH.out.below hB).cell (i := 8) rfl, (HOH.out.below hB).cell (i := 9) rfl⟩
  have HV0 := hide h
  clear h hoH hoR hV1 hA hsz
  go_enter Tryz.func39, Tryz.ntmps39
  go_upto_region 1 with (fail)
  rw [← hW1]
  clear hW1
  have hrr := Below.refl W1.heap.size W1
  obtain ⟨mm0, mm1, mm2, mm3, mm4, mm5, mm6, mm7, mm8, mm9, mm10, mm11, mm12, mm13, mm14⟩ := HKS.out _ hrr
  go_region_held3 (fun w' => w'.cell? ⟨b, 0, none⟩ = some (.int .i64 e) ∧ w'.cell? ⟨b, 1, none⟩ = some (.int .i64 k) ∧ w'.cell? ⟨b, 2, none⟩ = some (.int .i64 o) ∧ w'.cell? ⟨b, 3, none⟩ = some (.int .i64 li) ∧ w'.cell? ⟨b, 4, none⟩ = some (.slice av zs.length cv) ∧ w'.cell? ⟨w.heap.size, 0, none⟩ = some (.int .i64 a) ∧ w'.cell? ⟨w.heap.size, 1, none⟩ = some (.int .i64 t0) ∧ w'.cell? ⟨w.heap.size, 2, none⟩ = some (.int .i64 t1) ∧ w'.cell? ⟨w.heap.size, 3, none⟩ = some (.int .i64 t2) ∧ w'.cell? ⟨w.heap.size, 4, none⟩ = some (.int .i64 t3) ∧ w'.cell? ⟨w.heap.size, 5, none⟩ = some (.int .i64 u0) ∧ w'.cell? ⟨w.heap.size, 6, none⟩ = some (.int .i64 u1) ∧ w'.cell? ⟨w.heap.size, 7, none⟩ = some (.int .i64 u2) ∧ w'.cell? ⟨w.heap.size, 8, none⟩ = some (.int .i64 u3) ∧ w'.cell? ⟨w.heap.size, 9, none⟩ = some (.string s)) (first | exact HKS.out _ (by assumption) | (refine HKS.out _ ?_; go_grown) | go_keep)
    (first | (go_at_call 56; refine (JA.out _).mono ?_; rintro e6 w3 ⟨rfl, hb3⟩; have hw3 : Below W1.heap.size W1 w3 := Below.trans (by go_grown) (Below.mono hb3 (by first | omega | (simp; done) | (simp; omega))); have hs3 := hw3.size; obtain ⟨c3, d3⟩ := bcell hb3))
  have HB3 := hide (hA1.trans (hw3.mono (by omega)))
  have HV3 := hide (HV1.out.below hw3)
  have HR3 := hide (HOR.out.below hw3)
  have HH3 := hide (HOH.out.below hw3)
  clear hb3 hw3 c3 d3 hrr JA HV1 HOR HOH mm0 mm1 mm2 mm3 mm4 mm5 mm6 mm7 mm8 mm9 mm10 mm11 mm12 mm13 mm14
  have c9 : w3.cell? ⟨b, 9, none⟩ = some (.int .i64 cn) := HV3.out.q.1.cell (i := 9) rfl
  have f9 := HV3.out.q.1.free 9
  have hb3 : b < w3.heap.size := HV3.out.q.1.lt
  have hB3z := HB3.out.size
  obtain ⟨W4, hW4⟩ : ∃ W4, W4 = ((w3.setCell ⟨b, 9, none⟩ (.int .i64 (cn + 1))).alloc (.cells #[.int .i64 0, .int .i64 cn] 74)) := ⟨_, rfl⟩
  have hV4 : RV W4 b e k o li n m (cn + 1) (.slice av zs.length cv) vn vk zs z1 z2 ∧ SVst (rvF b (.slice av zs.length cv) vn vk) (rvF b (.slice av zs.length cv) vn vk) w3 W4 := by
    rw [hW4]; exact HV3.out.own ((HV3.out.q.1.set 9 _).alloc _) (((Kept.refl _ _).setCell (.inl (by simp)) _).alloc _) (.inl ⟨rfl, rfl⟩) (.inl ⟨rfl, rfl⟩) ⟨rfl, rfl⟩
  have hC4 : ObjAt W4 w3.heap.size 74 [.int .i64 0, .int .i64 cn] := by rw [hW4]; exact objNew (by simp)
  have HR4 : Hid (ObjAt W4 (w.heap.size + 1) 101 [.int .i64 0, .int .i64 0, .int .i64 0, .int .i64 0, .int .i64 0, .int .i64 0, .int .i64 0, .bool false]) := by rw [hW4]; exact (HR3.out.setOther (a := ⟨b, 9, none⟩) (by show w.heap.size + 1 ≠ b; omega) _).alloc _
  have HH4 : Hid (ObjAt W4 w.heap.size 69 [.int .i64 a, .int .i64 t0, .int .i64 t1, .int .i64 t2, .int .i64 t3, .int .i64 u0, .int .i64 u1, .int .i64 u2, .int .i64 u3, .string s]) := by rw [hW4]; exact (HH3.out.setOther (a := ⟨b, 9, none⟩) (by show w.heap.size ≠ b; omega) _).alloc _
  have HV4 := hide hV4.1
  have HT4 := hide ((SVst.of_below HB3.out).trans hV4.2)
  have HC4 := hide hC4
  have hz4 : W4.heap.size = w3.heap.size + 1 := by rw [hW4]; simp
  clear hV4 HKS hC4
  go_upto_region 13 with (fail)
  rw [← hW4]
  clear hW4 c9 f9
  have HKC : Hid (∀ w' : World, Below W4.heap.size W4 w' → w'.cell? ⟨w3.heap.size, 0, none⟩ = some (.int .i64 0) ∧ w'.cell? ⟨w3.heap.size, 1, none⟩ = some (.int .i64 cn)) := fun w' hB => ⟨(HC4.out.below hB).cell (i := 0) rfl, (HC4.out.below hB).cell (i := 1) rfl⟩
  have hrr := Below.refl W4.heap.size W4
  obtain ⟨k0, k1⟩ := HKC.out _ hrr
  have nqS : ∀ x, w.heap.size ≤ x → x ∉ qS b (.slice av zs.length cv) := fun x hx hm => by
    rcases mem_qS.1 hm with e' | e'
    · omega
    · have := hFl x (mem_rvF.2 (.inr (.inl e'))); omega
  go_region_held3 (fun w' => w'.cell? ⟨w3.heap.size, 0, none⟩ = some (.int .i64 0) ∧ w'.cell? ⟨w3.heap.size, 1, none⟩ = some (.int .i64 cn)) (first | with_reducible assumption | exact HKC.out _ (by assumption) | (refine HKC.out _ ?_; go_grown) | go_keep)
    (first | (go_at_call 57; refine (OF.out _ (HV4.out.below (by go_grown : Below W4.heap.size W4 _)).q).mono ?_; rintro e5 w5 ⟨rfl, v5, hq5, hr5, hk5⟩; have HV5 := hide ((HV4.out.below (by go_grown : Below W4.heap.size W4 _)).offer hq5 hr5 hk5); have HT5 := hide (HT4.out.trans (SVst.pre (by go_grown : Below W4.heap.size W4 _) HV5.out.2)); have HQN := hide (rs_rowlt (w0 := w) (w4 := W4) (fun g hg => hFl g (mem_rvF.2 (.inr (.inl hg)))) hr5 (Below.size (by go_grown : Below W4.heap.size W4 _))); have HR5 := hide (hk5.obj (HR4.out.below (by go_grown : Below W4.heap.size W4 _)) (nqS _ (by omega))); have HH5 := hide (hk5.obj (HH4.out.below (by go_grown : Below W4.heap.size W4 _)) (nqS _ (Nat.le_refl _))); have HC5 := hide (hk5.obj (HC4.out.below (by go_grown : Below W4.heap.size W4 _)) (nqS _ hB3z)); have KK : w5.cell? ⟨w3.heap.size, 0, none⟩ = some (.int .i64 0) ∧ w5.cell? ⟨w3.heap.size, 1, none⟩ = some (.int .i64 cn) := ⟨HC5.out.cell (i := 0) rfl, HC5.out.cell (i := 1) rfl⟩; have hz5 : W4.heap.size ≤ w5.heap.size := Nat.le_trans (Below.size (by go_grown : Below W4.heap.size W4 _)) hk5.size; clear hq5 hr5 hk5))
  clear hrr k0 k1 HKC HV4 HT4 HR4 HH4 HC4 OF HV3 HR3 HH3
  have g0 := HC5.out.cell (i := 0) rfl
  have g1 := HC5.out.cell (i := 1) rfl
  obtain ⟨W6, hW6⟩ : ∃ W6, W6 = w5.alloc (.cells #[.int .i64 1, .int .i64 0, .int .i64 0, .int .i64 0, .int .i64 0, .int .i64 0, .int .i64 cn, .bool false] 101) := ⟨_, rfl⟩
  have hA6 : Below w5.heap.size w5 W6 := by rw [hW6]; exact (Below.refl _ _).alloc (Nat.le_refl _) _
  have HA6 : Hid (ObjAt W6 w5.heap.size 101 [.int .i64 1, .int .i64 0, .int .i64 0, .int .i64 0, .int .i64 0, .int .i64 0, .int .i64 cn, .bool false]) := by rw [hW6]; exact ObjAt.new _ _ _
  have HV6 := hide (HV5.out.1.below hA6)
  have HT6 := hide (HT5.out.post hA6)
  have HL5 := hide HV5.out.1.lt
  have HR6 := hide (HR5.out.below hA6)
  have HH6 := hide (HH5.out.below hA6)
  have hz6 : w5.heap.size < W6.heap.size := HA6.out.lt
  have hF6 : w.heap.size + 1 ∉ rvF b v5 vn vk := fun hm => by
    rcases mem_rvF.1 hm with e' | e' | e'
    · omega
    · have := HQN.out _ e'; omega
    · have := hFl _ (mem_rvF.2 (.inr (.inr e'))); omega
  clear KK HV5 HT5 HR5 HH5 HC5 hA6
  go_upto_region 15 with (fail)
  rw [← hW6]
  clear hW6 g0 g1
  have HKE : Hid (∀ w' : World, Below W6.heap.size W6 w' → w'.cell? ⟨b, 7, none⟩ = some vn ∧ w'.cell? ⟨w.heap.size, 6, none⟩ = some (.int .i64 u1) ∧ w'.cell? ⟨w.heap.size, 7, none⟩ = some (.int .i64 u2)) := fun w' hB => ⟨(HV6.out.below hB).q.1.cell (i := 7) rfl, (HH6.out.below hB).cell (i := 6) rfl, (HH6.out.below hB).cell (i := 7) rfl⟩
  have hrr := Below.refl W6.heap.size W6
  obtain ⟨k0, k1, k2⟩ := HKE.out _ hrr
  go_wp2_with fail
  go_region_held3 (fun w' => w'.cell? ⟨b, 7, none⟩ = some vn ∧ w'.cell? ⟨w.heap.size, 6, none⟩ = some (.int .i64 u1) ∧ w'.cell? ⟨w.heap.size, 7, none⟩ = some (.int .i64 u2)) (first | with_reducible assumption | exact HKE.out _ (by assumption) | (refine HKE.out _ ?_; go_grown) | go_keep)
    (first | (go_at_call 58; refine (SP.out _ (HV6.out.below (by go_grown : Below W6.heap.size W6 _)).now).mono ?_; rintro e5 w7 ⟨rfl, hb7⟩; have hw7 : Below W6.heap.size W6 w7 := Below.trans (by go_grown) (Below.mono hb7 (by first | omega | (simp; done) | (simp; omega))); clear hb7))
  have HV7 := hide (HV6.out.below hw7)
  have HT7 := hide (HT6.out.post hw7)
  have HR7 := hide (HR6.out.below hw7)
  have HA7 := hide (HA6.out.below hw7)
  have hz7 := hw7.size
  clear hrr k0 k1 k2 HKE HV6 HT6 HR6 HH6 HA6 SP hw7
  have q0 := HA7.out.cell (i := 0) rfl
  have q1 := HA7.out.cell (i := 1) rfl
  have q2 := HA7.out.cell (i := 2) rfl
  have q3 := HA7.out.cell (i := 3) rfl
  have q4 := HA7.out.cell (i := 4) rfl
  have q5 := HA7.out.cell (i := 5) rfl
  have q6 := HA7.out.cell (i := 6) rfl
  have q7 := HA7.out.cell (i := 7) rfl
  have r0 := HR7.out.cell (i := 0) rfl
  have f0 := HR7.out.free 0
  have r1 := HR7.out.cell (i := 1) rfl
  have f1 := HR7.out.free 1
  have r2 := HR7.out.cell (i := 2) rfl
  have f2 := HR7.out.free 2
  have r3 := HR7.out.cell (i := 3) rfl
  have f3 := HR7.out.free 3
  have r4 := HR7.out.cell (i := 4) rfl
  have f4 := HR7.out.free 4
  have r5 := HR7.out.cell (i := 5) rfl
  have f5 := HR7.out.free 5
  have r6 := HR7.out.cell (i := 6) rfl
  have f6 := HR7.out.free 6
  have r7 := HR7.out.cell (i := 7) rfl
  have f7 := HR7.out.free 7
  go_wp2
  exact bodyPost_ret (v := .tuple #[.agg #[.int .i64 1, .int .i64 0, .int .i64 0, .int .i64 0, .int .i64 0, .int .i64 0, .int .i64 cn, .bool false], .int .i64 0]) (by simp [results, Tryz.results39, go_sem, *]) rfl ⟨rfl, _, HV7.out.set8 hF6 _ _ _ _ _ _ _ _, SVst.set8 HT7.out (Nat.le_succ _) _ _ _ _ _ _ _ _⟩
set_option maxRecDepth 100000 in
set_option maxHeartbeats 8000000 in
theorem rsHelloE_ok {a t0 t1 t2 t3 u0 u1 u2 u3 : Int} {s : ByteArray} {now : Int} {b : Nat} {e k o li n m cn : Int} {v vn vk : Value} {zs z1 z2 : List (Int × Int)} {ns ys : List (Int × Int)} (hsz : s.size ≤ 9223372036854775807) (hA : ansN e k o a t0 t1 t2 t3 u0 u1 u2 u3 s (zs.length : Int) now li = (1, true, 0)) (hns : zs ++ [(0, cn)] = ns) (hc : offE zs 0 cn = 0) (hcn : 0 ≤ cn ∧ cn < 4096) (h16 : z1.length ≤ 16) (hys : spDrop z1 now ++ [(u1, u2)] = ys) (hsp : spMoreE z1 u1 u2 now = 0) (w : World) (h : RV w b e k o li n m cn v vn vk zs z1 z2) :
    Calls Tryz.prog 39 #[.pointer (some ⟨b, 0, none⟩), .agg #[.int .i64 a, .int .i64 t0, .int .i64 t1, .int .i64 t2, .int .i64 t3, .int .i64 u0, .int .i64 u1, .int .i64 u2, .int .i64 u3, .string s], .int .i64 now] w fun r w' => r = .returned (.tuple #[.agg #[.int .i64 1, .int .i64 0, .int .i64 0, .int .i64 0, .int .i64 0, .int .i64 0, .int .i64 cn, .bool true], .int .i64 0]) ∧ ∃ v' v7, RV w' b e k o li n m (cn + 1) v' v7 v7 ns ys ys ∧ SVst (rvF b v vn vk) (rvF b v' v7 v7) w w' := by
  have OF := hide (fun W (hq : RQ (rvC e k o li n m (cn + 1) vn vk) W b v zs) => rsOffer_ok hns hc b v W hq)
  clear hns hc
  have hyl : ys.length ≤ 1000 := by have := spDrop_le z1 now; rw [← hys]; simp; omega
  have SP : Hid (∀ W, PSl W vn z1 → Calls Tryz.prog 58 #[vn, .int .i64 u1, .int .i64 u2, .int .i64 now] W fun e w' => ∃ v', e = .returned (.tuple #[v', .int .i64 0]) ∧ w'.ownsRow W.heap.size 173 2 v' ys.length (flat ys) ∧ Below W.heap.size W w') := by
    intro W hp
    have := rSpend_ok h16 hsp vn W hp
    rwa [hys] at this
  have HYL := hide hyl
  clear h16 hsp hys hyl
  have hbl := h.q.1.lt
  obtain ⟨av, cv, rfl⟩ := qrow_form h.q.2.1
  have hzl : zs.length ≤ 900 := h.q.2.1.1
  have hFl := h.lt
  have JA := hide (fun W => rAnswer (wt := (zs.length : Int)) hsz hA W)
  have hA1 : Below w.heap.size w ((w.alloc (.cells #[.int .i64 a, .int .i64 t0, .int .i64 t1, .int .i64 t2, .int .i64 t3, .int .i64 u0, .int .i64 u1, .int .i64 u2, .int .i64 u3, .string s] 69)).alloc (.cells #[.int .i64 0, .int .i64 0, .int .i64 0, .int .i64 0, .int .i64 0, .int .i64 0, .int .i64 0, .bool false] 101)) := ((Below.refl _ _).alloc (Nat.le_refl _) _).alloc (by simp) _
  have hoH : ObjAt ((w.alloc (.cells #[.int .i64 a, .int .i64 t0, .int .i64 t1, .int .i64 t2, .int .i64 t3, .int .i64 u0, .int .i64 u1, .int .i64 u2, .int .i64 u3, .string s] 69)).alloc (.cells #[.int .i64 0, .int .i64 0, .int .i64 0, .int .i64 0, .int .i64 0, .int .i64 0, .int .i64 0, .bool false] 101)) w.heap.size 69 [.int .i64 a, .int .i64 t0, .int .i64 t1, .int .i64 t2, .int .i64 t3, .int .i64 u0, .int .i64 u1, .int .i64 u2, .int .i64 u3, .string s] := (ObjAt.new _ _ _).alloc _
  have hoR : ObjAt ((w.alloc (.cells #[.int .i64 a, .int .i64 t0, .int .i64 t1, .int .i64 t2, .int .i64 t3, .int .i64 u0, .int .i64 u1, .int .i64 u2, .int .i64 u3, .string s] 69)).alloc (.cells #[.int .i64 0, .int .i64 0, .int .i64 0, .int .i64 0, .int .i64 0, .int .i64 0, .int .i64 0, .bool false] 101)) (w.heap.size + 1) 101 [.int .i64 0, .int .i64 0, .int .i64 0, .int .i64 0, .int .i64 0, .int .i64 0, .int .i64 0, .bool false] := objNew (by simp)
  have hV1 := h.below hA1
  obtain ⟨W1, hW1⟩ : ∃ W1, W1 = ((w.alloc (.cells #[.int .i64 a, .int .i64 t0, .int .i64 t1, .int .i64 t2, .int .i64 t3, .int .i64 u0, .int .i64 u1, .int .i64 u2, .int .i64 u3, .string s] 69)).alloc (.cells #[.int .i64 0, .int .i64 0, .int .i64 0, .int .i64 0, .int .i64 0, .int .i64 0, .int .i64 0, .bool false] 101)) := ⟨_, rfl⟩
  have hz1 : W1.heap.size = w.heap.size + 2 := by rw [hW1]; simp
  rw [← hW1] at hA1 hoH hoR hV1
  have HOR := hide hoR
  have HOH := hide hoH
  have HV1 := hide hV1
  have HKS : Hid (∀ w' : World, Below W1.heap.size W1 w' → w'.cell? ⟨b, 0, none⟩ = some (.int .i64 e) ∧ w'.cell? ⟨b, 1, none⟩ = some (.int .i64 k) ∧ w'.cell? ⟨b, 2, none⟩ = some (.int .i64 o) ∧ w'.cell? ⟨b, 3, none⟩ = some (.int .i64 li) ∧ w'.cell? ⟨b, 4, none⟩ = some (.slice av zs.length cv) ∧ w'.cell? ⟨w.heap.size, 0, none⟩ = some (.int .i64 a) ∧ w'.cell? ⟨w.heap.size, 1, none⟩ = some (.int .i64 t0) ∧ w'.cell? ⟨w.heap.size, 2, none⟩ = some (.int .i64 t1) ∧ w'.cell? ⟨w.heap.size, 3, none⟩ = some (.int .i64 t2) ∧ w'.cell? ⟨w.heap.size, 4, none⟩ = some (.int .i64 t3) ∧ w'.cell? ⟨w.heap.size, 5, none⟩ = some (.int .i64 u0) ∧ w'.cell? ⟨w.heap.size, 6, none⟩ = some (.int .i64 u1) ∧ w'.cell? ⟨w.heap.size, 7, none⟩ = some (.int .i64 u2) ∧ w'.cell? ⟨w.heap.size, 8, none⟩ = some (.int .i64 u3) ∧ w'.cell? ⟨w.heap.size, 9, none⟩ = some (.string s)) := fun w' hB => ⟨(HV1.out.below hB).q.1.cell (i := 0) rfl, (HV1.out.below hB).q.1.cell (i := 1) rfl, (HV1.out.below hB).q.1.cell (i := 2) rfl, (HV1.out.below hB).q.1.cell (i := 3) rfl, (HV1.out.below hB).q.1.cell (i := 4) rfl, (HOH.out.below hB).cell (i := 0) rfl, (HOH.out.below hB).cell (i := 1) rfl, (HOH.out.below hB).cell (i := 2) rfl, (HOH.out.below hB).cell (i := 3) rfl, (HOH.out.below hB).cell (i := 4) rfl, (HOH.out.below hB).cell (i := 5) rfl, (HOH.out.below hB).cell (i := 6) rfl, (HOH.out.below hB).cell (i := 7) rfl, (HOH.out.below hB).cell (i := 8) rfl, (HOH.out.below hB).cell (i := 9) rfl⟩
  have HV0 := hide h
  clear h hoH hoR hV1 hA hsz
  go_enter Tryz.func39, Tryz.ntmps39
  go_upto_region 1 with (fail)
  rw [← hW1]
  clear hW1
  have hrr := Below.refl W1.heap.size W1
  obtain ⟨mm0, mm1, mm2, mm3, mm4, mm5, mm6, mm7, mm8, mm9, mm10, mm11, mm12, mm13, mm14⟩ := HKS.out _ hrr
  go_region_held3 (fun w' => w'.cell? ⟨b, 0, none⟩ = some (.int .i64 e) ∧ w'.cell? ⟨b, 1, none⟩ = some (.int .i64 k) ∧ w'.cell? ⟨b, 2, none⟩ = some (.int .i64 o) ∧ w'.cell? ⟨b, 3, none⟩ = some (.int .i64 li) ∧ w'.cell? ⟨b, 4, none⟩ = some (.slice av zs.length cv) ∧ w'.cell? ⟨w.heap.size, 0, none⟩ = some (.int .i64 a) ∧ w'.cell? ⟨w.heap.size, 1, none⟩ = some (.int .i64 t0) ∧ w'.cell? ⟨w.heap.size, 2, none⟩ = some (.int .i64 t1) ∧ w'.cell? ⟨w.heap.size, 3, none⟩ = some (.int .i64 t2) ∧ w'.cell? ⟨w.heap.size, 4, none⟩ = some (.int .i64 t3) ∧ w'.cell? ⟨w.heap.size, 5, none⟩ = some (.int .i64 u0) ∧ w'.cell? ⟨w.heap.size, 6, none⟩ = some (.int .i64 u1) ∧ w'.cell? ⟨w.heap.size, 7, none⟩ = some (.int .i64 u2) ∧ w'.cell? ⟨w.heap.size, 8, none⟩ = some (.int .i64 u3) ∧ w'.cell? ⟨w.heap.size, 9, none⟩ = some (.string s)) (first | exact HKS.out _ (by assumption) | (refine HKS.out _ ?_; go_grown) | go_keep)
    (first | (go_at_call 56; refine (JA.out _).mono ?_; rintro e6 w3 ⟨rfl, hb3⟩; have hw3 : Below W1.heap.size W1 w3 := Below.trans (by go_grown) (Below.mono hb3 (by first | omega | (simp; done) | (simp; omega))); have hs3 := hw3.size; obtain ⟨c3, d3⟩ := bcell hb3))
  have HB3 := hide (hA1.trans (hw3.mono (by omega)))
  have HV3 := hide (HV1.out.below hw3)
  have HR3 := hide (HOR.out.below hw3)
  have HH3 := hide (HOH.out.below hw3)
  clear hb3 hw3 c3 d3 hrr JA HV1 HOR HOH mm0 mm1 mm2 mm3 mm4 mm5 mm6 mm7 mm8 mm9 mm10 mm11 mm12 mm13 mm14
  have c9 : w3.cell? ⟨b, 9, none⟩ = some (.int .i64 cn) := HV3.out.q.1.cell (i := 9) rfl
  have f9 := HV3.out.q.1.free 9
  have hb3 : b < w3.heap.size := HV3.out.q.1.lt
  have hB3z := HB3.out.size
  obtain ⟨W4, hW4⟩ : ∃ W4, W4 = ((w3.setCell ⟨b, 9, none⟩ (.int .i64 (cn + 1))).alloc (.cells #[.int .i64 0, .int .i64 cn] 74)) := ⟨_, rfl⟩
  have hV4 : RV W4 b e k o li n m (cn + 1) (.slice av zs.length cv) vn vk zs z1 z2 ∧ SVst (rvF b (.slice av zs.length cv) vn vk) (rvF b (.slice av zs.length cv) vn vk) w3 W4 := by
    rw [hW4]; exact HV3.out.own ((HV3.out.q.1.set 9 _).alloc _) (((Kept.refl _ _).setCell (.inl (by simp)) _).alloc _) (.inl ⟨rfl, rfl⟩) (.inl ⟨rfl, rfl⟩) ⟨rfl, rfl⟩
  have hC4 : ObjAt W4 w3.heap.size 74 [.int .i64 0, .int .i64 cn] := by rw [hW4]; exact objNew (by simp)
  have HR4 : Hid (ObjAt W4 (w.heap.size + 1) 101 [.int .i64 0, .int .i64 0, .int .i64 0, .int .i64 0, .int .i64 0, .int .i64 0, .int .i64 0, .bool false]) := by rw [hW4]; exact (HR3.out.setOther (a := ⟨b, 9, none⟩) (by show w.heap.size + 1 ≠ b; omega) _).alloc _
  have HH4 : Hid (ObjAt W4 w.heap.size 69 [.int .i64 a, .int .i64 t0, .int .i64 t1, .int .i64 t2, .int .i64 t3, .int .i64 u0, .int .i64 u1, .int .i64 u2, .int .i64 u3, .string s]) := by rw [hW4]; exact (HH3.out.setOther (a := ⟨b, 9, none⟩) (by show w.heap.size ≠ b; omega) _).alloc _
  have HV4 := hide hV4.1
  have HT4 := hide ((SVst.of_below HB3.out).trans hV4.2)
  have HC4 := hide hC4
  have hz4 : W4.heap.size = w3.heap.size + 1 := by rw [hW4]; simp
  clear hV4 HKS hC4
  go_upto_region 13 with (fail)
  rw [← hW4]
  clear hW4 c9 f9
  have HKC : Hid (∀ w' : World, Below W4.heap.size W4 w' → w'.cell? ⟨w3.heap.size, 0, none⟩ = some (.int .i64 0) ∧ w'.cell? ⟨w3.heap.size, 1, none⟩ = some (.int .i64 cn)) := fun w' hB => ⟨(HC4.out.below hB).cell (i := 0) rfl, (HC4.out.below hB).cell (i := 1) rfl⟩
  have hrr := Below.refl W4.heap.size W4
  obtain ⟨k0, k1⟩ := HKC.out _ hrr
  have nqS : ∀ x, w.heap.size ≤ x → x ∉ qS b (.slice av zs.length cv) := fun x hx hm => by
    rcases mem_qS.1 hm with e' | e'
    · omega
    · have := hFl x (mem_rvF.2 (.inr (.inl e'))); omega
  go_region_held3 (fun w' => w'.cell? ⟨w3.heap.size, 0, none⟩ = some (.int .i64 0) ∧ w'.cell? ⟨w3.heap.size, 1, none⟩ = some (.int .i64 cn)) (first | with_reducible assumption | exact HKC.out _ (by assumption) | (refine HKC.out _ ?_; go_grown) | go_keep)
    (first | (go_at_call 57; refine (OF.out _ (HV4.out.below (by go_grown : Below W4.heap.size W4 _)).q).mono ?_; rintro e5 w5 ⟨rfl, v5, hq5, hr5, hk5⟩; have HV5 := hide ((HV4.out.below (by go_grown : Below W4.heap.size W4 _)).offer hq5 hr5 hk5); have HT5 := hide (HT4.out.trans (SVst.pre (by go_grown : Below W4.heap.size W4 _) HV5.out.2)); have HQN := hide (rs_rowlt (w0 := w) (w4 := W4) (fun g hg => hFl g (mem_rvF.2 (.inr (.inl hg)))) hr5 (Below.size (by go_grown : Below W4.heap.size W4 _))); have HR5 := hide (hk5.obj (HR4.out.below (by go_grown : Below W4.heap.size W4 _)) (nqS _ (by omega))); have HH5 := hide (hk5.obj (HH4.out.below (by go_grown : Below W4.heap.size W4 _)) (nqS _ (Nat.le_refl _))); have HC5 := hide (hk5.obj (HC4.out.below (by go_grown : Below W4.heap.size W4 _)) (nqS _ hB3z)); have KK : w5.cell? ⟨w3.heap.size, 0, none⟩ = some (.int .i64 0) ∧ w5.cell? ⟨w3.heap.size, 1, none⟩ = some (.int .i64 cn) := ⟨HC5.out.cell (i := 0) rfl, HC5.out.cell (i := 1) rfl⟩; have hz5 : W4.heap.size ≤ w5.heap.size := Nat.le_trans (Below.size (by go_grown : Below W4.heap.size W4 _)) hk5.size; clear hq5 hr5 hk5))
  clear hrr k0 k1 HKC HV4 HT4 HR4 HH4 HC4 OF HV3 HR3 HH3
  have g0 := HC5.out.cell (i := 0) rfl
  have g1 := HC5.out.cell (i := 1) rfl
  obtain ⟨W6, hW6⟩ : ∃ W6, W6 = w5.alloc (.cells #[.int .i64 1, .int .i64 0, .int .i64 0, .int .i64 0, .int .i64 0, .int .i64 0, .int .i64 cn, .bool false] 101) := ⟨_, rfl⟩
  have hA6 : Below w5.heap.size w5 W6 := by rw [hW6]; exact (Below.refl _ _).alloc (Nat.le_refl _) _
  have HA6 : Hid (ObjAt W6 w5.heap.size 101 [.int .i64 1, .int .i64 0, .int .i64 0, .int .i64 0, .int .i64 0, .int .i64 0, .int .i64 cn, .bool false]) := by rw [hW6]; exact ObjAt.new _ _ _
  have HV6 := hide (HV5.out.1.below hA6)
  have HT6 := hide (HT5.out.post hA6)
  have HL5 := hide HV5.out.1.lt
  have HR6 := hide (HR5.out.below hA6)
  have HH6 := hide (HH5.out.below hA6)
  have hz6 : w5.heap.size < W6.heap.size := HA6.out.lt
  have hF6 : w.heap.size + 1 ∉ rvF b v5 vn vk := fun hm => by
    rcases mem_rvF.1 hm with e' | e' | e'
    · omega
    · have := HQN.out _ e'; omega
    · have := hFl _ (mem_rvF.2 (.inr (.inr e'))); omega
  clear KK HV5 HT5 HR5 HH5 HC5 hA6
  go_upto_region 15 with (fail)
  rw [← hW6]
  clear hW6 g0 g1
  have HKE : Hid (∀ w' : World, Below W6.heap.size W6 w' → w'.cell? ⟨b, 7, none⟩ = some vn ∧ w'.cell? ⟨w.heap.size, 6, none⟩ = some (.int .i64 u1) ∧ w'.cell? ⟨w.heap.size, 7, none⟩ = some (.int .i64 u2)) := fun w' hB => ⟨(HV6.out.below hB).q.1.cell (i := 7) rfl, (HH6.out.below hB).cell (i := 6) rfl, (HH6.out.below hB).cell (i := 7) rfl⟩
  have hrr := Below.refl W6.heap.size W6
  obtain ⟨k0, k1, k2⟩ := HKE.out _ hrr
  go_wp2_with fail
  go_region_held3 (fun w' => w'.cell? ⟨b, 7, none⟩ = some vn ∧ w'.cell? ⟨w.heap.size, 6, none⟩ = some (.int .i64 u1) ∧ w'.cell? ⟨w.heap.size, 7, none⟩ = some (.int .i64 u2)) (first | with_reducible assumption | exact HKE.out _ (by assumption) | (refine HKE.out _ ?_; go_grown) | go_keep)
    (first | (go_at_call 58; refine (SP.out _ (HV6.out.below (by go_grown : Below W6.heap.size W6 _)).now).mono ?_; rintro e5 w7 ⟨v7, rfl, hown7, hb7⟩; have hw7 : Below W6.heap.size W6 w7 := Below.trans (by go_grown) (Below.mono hb7 (by first | omega | (simp; done) | (simp; omega))); have HVN7 := hide (rs_ownnew (w0 := W6) hown7 (Below.size (by go_grown : Below W6.heap.size W6 _))); have HP7 := hide (own_psl hown7 HYL.out); obtain ⟨a7, cc7, hv7⟩ := own_sl hown7; clear hown7; clear hb7))
  have HV7 := hide (HV6.out.below hw7)
  have HT7 := hide (HT6.out.post hw7)
  have HR7 := hide (HR6.out.below hw7)
  have HA7 := hide (HA6.out.below hw7)
  have hz7 := hw7.size
  clear hrr k0 k1 k2 HKE HV6 HT6 HR6 HH6 HA6 SP hw7
  have hbl7 : b < W6.heap.size := by omega
  have hFA : w5.heap.size ∉ rvF b v5 vn vk := fun hm => by
    rcases mem_rvF.1 hm with e' | e' | e'
    · omega
    · have := HL5.out _ (mem_rvF.2 (.inr (.inl e'))); omega
    · have := hFl _ (mem_rvF.2 (.inr (.inr e'))); omega
  have c7 : w7.cell? ⟨b, 7, none⟩ = some vn := HV7.out.q.1.cell (i := 7) rfl
  have c8 : w7.cell? ⟨b, 8, none⟩ = some vk := HV7.out.q.1.cell (i := 8) rfl
  have f7b := HV7.out.q.1.free 7
  have f8b := HV7.out.q.1.free 8
  have qa7 := HA7.out.cell (i := 7) rfl
  have fa7 := HA7.out.free 7
  obtain ⟨W8, hW8⟩ : ∃ W8, W8 = ((w7.setCell ⟨w5.heap.size, 7, none⟩ (.bool true)).setCell ⟨b, 7, none⟩ v7).setCell ⟨b, 8, none⟩ v7 := ⟨_, rfl⟩
  have hk7 : Kept [w5.heap.size] w7 (w7.setCell ⟨w5.heap.size, 7, none⟩ (.bool true)) := (Kept.refl _ _).setCell (.inl (by simp)) _
  have hk8 : Kept [b] (w7.setCell ⟨w5.heap.size, 7, none⟩ (.bool true)) W8 := by rw [hW8]; exact ((Kept.refl _ _).setCell (.inl (by simp)) _).setCell (.inl (by simp)) _
  have hp8 : PSl W8 v7 ys := (HP7.out.kept hk7 (fun x hx e' => by simp at hx; subst hx; have := (HVN7.out _ e').1; omega)).kept hk8 (fun x hx e' => by simp at hx; subst hx; have := (HVN7.out _ e').1; omega)
  have hv8 := (HV7.out.set hFA 7 (.bool true)).spent (v' := v7) (by rw [hW8]; exact ((HV7.out.set hFA 7 (.bool true)).q.1.set 7 v7).set 8 v7) hp8 (fun g hg => ⟨by have := (HVN7.out g hg).2; rw [hW8]; simp; omega, by have := (HVN7.out g hg).1; omega, fun e' => by have := HL5.out _ (mem_rvF.2 (.inr (.inl e'))); have := (HVN7.out g hg).1; omega⟩) hk8
  have HV8 := hide hv8
  have HT8 := hide (rs_spst (v' := v7) (z := W6.heap.size) (HT7.out.set (X := w5.heap.size) (by omega) 7 (.bool true)) (mem_rvF.2 (.inl rfl)) (by omega) (fun g hg => (HVN7.out g hg).1) hk8)
  have HR8 : Hid (ObjAt W8 (w.heap.size + 1) 101 [.int .i64 0, .int .i64 0, .int .i64 0, .int .i64 0, .int .i64 0, .int .i64 0, .int .i64 0, .bool false]) := hide (hk8.obj (hk7.obj HR7.out (by simp; omega)) (by simp; omega))
  have HA8 : Hid (ObjAt W8 w5.heap.size 101 [.int .i64 1, .int .i64 0, .int .i64 0, .int .i64 0, .int .i64 0, .int .i64 0, .int .i64 cn, .bool true]) := hide (hk8.obj (HA7.out.set 7 _) (by simp; omega))
  have hF8 : w.heap.size + 1 ∉ rvF b v5 v7 v7 := fun hm => by
    rcases mem_rvF.1 hm with e' | e' | e'
    · omega
    · have := HQN.out _ e'; omega
    · have := (HVN7.out _ (e'.elim id id)).1; omega
  have hv7' := hv7
  clear hv8 hp8 hk7 hk8 HP7 HVN7 HV7 HT7 HR7 HA7 hv7
  subst hv7'
  go_upto_region 21 with (fail)
  rw [← hW8]
  clear hW8 c7 c8 f7b f8b qa7 fa7
  have q0 := HA8.out.cell (i := 0) rfl
  have q1 := HA8.out.cell (i := 1) rfl
  have q2 := HA8.out.cell (i := 2) rfl
  have q3 := HA8.out.cell (i := 3) rfl
  have q4 := HA8.out.cell (i := 4) rfl
  have q5 := HA8.out.cell (i := 5) rfl
  have q6 := HA8.out.cell (i := 6) rfl
  have q7 := HA8.out.cell (i := 7) rfl
  have r0 := HR8.out.cell (i := 0) rfl
  have f0 := HR8.out.free 0
  have r1 := HR8.out.cell (i := 1) rfl
  have f1 := HR8.out.free 1
  have r2 := HR8.out.cell (i := 2) rfl
  have f2 := HR8.out.free 2
  have r3 := HR8.out.cell (i := 3) rfl
  have f3 := HR8.out.free 3
  have r4 := HR8.out.cell (i := 4) rfl
  have f4 := HR8.out.free 4
  have r5 := HR8.out.cell (i := 5) rfl
  have f5 := HR8.out.free 5
  have r6 := HR8.out.cell (i := 6) rfl
  have f6 := HR8.out.free 6
  have r7 := HR8.out.cell (i := 7) rfl
  have f7 := HR8.out.free 7
  go_wp2
  exact bodyPost_ret (v := .tuple #[.agg #[.int .i64 1, .int .i64 0, .int .i64 0, .int .i64 0, .int .i64 0, .int .i64 0, .int .i64 cn, .bool true], .int .i64 0]) (by simp [results, Tryz.results39, go_sem, *]) rfl ⟨rfl, _, _, HV8.out.set8 hF8 _ _ _ _ _ _ _ _, SVst.set8 HT8.out (Nat.le_succ _) _ _ _ _ _ _ _ _⟩
end Go.Proofs.YtlnghfmcofmkjaaGreatDoor
