/- server: welcome, where early bytes may be taken, by contracts over the whole server. -/
import Derived.Test.YtlnghfmcofmkjaaGreatDoorRunAnswersProofM28
import Derived.BigQuiet
namespace Go.Proofs.YtlnghfmcofmkjaaGreatDoor
open Go.RowKit

theorem rowOf.pre {w W : World} {v v' : Value} (h : rowOf W v v') (hs : w.heap.size ≤ W.heap.size) : rowOf w v v' := h.imp id (fun ⟨g, h1, h2⟩ => ⟨g, h1, Nat.le_trans hs h2⟩)
theorem SV.set8 {w : World} {B b q bi bb bv : Nat} {e k o li cn : Int} {v va vb : Value} {zs z1 z2 : List (Int × Int)} {n m many : Int} (h : SV w B b q bi bb bv e k o li cn v va vb zs z1 z2 n m many) {X : Nat} (hX : X ∉ svF b q bi bb bv v va vb) (x0 x1 x2 x3 x4 x5 x6 x7 : Value) : SV (((((((((w.setCell ⟨X, 0, none⟩ x0).setCell ⟨X, 1, none⟩ x1).setCell ⟨X, 2, none⟩ x2).setCell ⟨X, 3, none⟩ x3).setCell ⟨X, 4, none⟩ x4).setCell ⟨X, 5, none⟩ x5).setCell ⟨X, 6, none⟩ x6).setCell ⟨X, 7, none⟩ x7)) B b q bi bb bv e k o li cn v va vb zs z1 z2 n m many :=
  (((((((h.set hX 0 x0).set hX 1 x1).set hX 2 x2).set hX 3 x3).set hX 4 x4).set hX 5 x5).set hX 6 x6).set hX 7 x7
theorem SVst.set8 {F F' : List Nat} {a w : World} (h : SVst F F' a w) {X : Nat} (hX : a.heap.size ≤ X) (x0 x1 x2 x3 x4 x5 x6 x7 : Value) : SVst F F' a (((((((((w.setCell ⟨X, 0, none⟩ x0).setCell ⟨X, 1, none⟩ x1).setCell ⟨X, 2, none⟩ x2).setCell ⟨X, 3, none⟩ x3).setCell ⟨X, 4, none⟩ x4).setCell ⟨X, 5, none⟩ x5).setCell ⟨X, 6, none⟩ x6).setCell ⟨X, 7, none⟩ x7)) :=
  (((((((h.set hX 0 x0).set hX 1 x1).set hX 2 x2).set hX 3 x3).set hX 4 x4).set hX 5 x5).set hX 6 x6).set hX 7 x7
set_option maxRecDepth 100000 in
set_option maxHeartbeats 8000000 in
theorem sWelE_ok {a t0 t1 t2 t3 u0 u1 u2 u3 : Int} {s : ByteArray} {now : Int} {B b q bi bb bv : Nat} {e k o li cn : Int} {v va vb : Value} {zs z1 z2 : List (Int × Int)} {n m many : Int} {ns ys : List (Int × Int)} (hns : zs ++ [(0, cn)] = ns) (hc : offE zs 0 cn = 0) (hcn : 0 ≤ cn ∧ cn < 4096) (hys : spDrop z1 now ++ [(u1, u2)] = ys) (hsp : spMoreE z1 u1 u2 now = 0) (hl1 : z1.length ≤ 999) (w : World) (hB : B ≤ w.heap.size) (h : SV w B b q bi bb bv e k o li cn v va vb zs z1 z2 n m many) :
    Calls Tryz.prog 106 #[.pointer (some ⟨b, 0, none⟩), .agg #[.int .i64 a, .int .i64 t0, .int .i64 t1, .int .i64 t2, .int .i64 t3, .int .i64 u0, .int .i64 u1, .int .i64 u2, .int .i64 u3, .string s], .int .i64 now, .bool true] w fun r w' => r = .returned (.tuple #[.agg #[.int .i64 1, .int .i64 0, .int .i64 0, .int .i64 0, .int .i64 0, .int .i64 0, .int .i64 cn, .bool true], .nilIface]) ∧ ∃ v' va' vb', SV w' B b q bi bb bv e k o li (cn + 1) v' va' vb' ns ys ys n m many ∧ SVst (svF b q bi bb bv v va vb) (svF b q bi bb bv v' va' vb') w w' := by
  have OF := hide (fun W (h : QAt 110 W q v zs) => qOffer_ok hns hc q v W h)
  have h4 : cn ≠ 4096 := by omega
  have HV := hide h
  have hbv : bv < w.heap.size := h.va.1.lt
  have hnF : ∀ x, w.heap.size ≤ x → x ∉ svF b q bi bb bv v va vb := fun x hx hm => by have := (h.lt x hm).2; omega
  replace h := h.sq
  have SP := hide (fun W (h : VA W bv va vb z1 z2) => vaSpend_ok hys hsp hl1 bv W h)
  clear hys hsp hl1
  clear hc hns
  have c4 := h.obj.cell (i := 4) rfl
  have c7 := h.obj.cell (i := 7) rfl
  have hbl := h.obj.lt
  have hql := h.que.1.lt
  have hvl : ∀ g, v.ownBlock = some g → g < w.heap.size := fun g hg => h.que.2.1.lt g hg
  have tcn : (cn == 4096) = false := beq_eq_false_iff_ne.2 h4
  have HSQ := hide h
  obtain ⟨W0, hW0⟩ : ∃ W0, W0 = ((w.alloc (.cells #[.int .i64 a, .int .i64 t0, .int .i64 t1, .int .i64 t2, .int .i64 t3, .int .i64 u0, .int .i64 u1, .int .i64 u2, .int .i64 u3, .string s] 69)).alloc (.cells #[.int .i64 0, .int .i64 0, .int .i64 0, .int .i64 0, .int .i64 0, .int .i64 0, .int .i64 0, .bool false] 101)) := ⟨_, rfl⟩
  have hA0 : Below w.heap.size w ((w.alloc (.cells #[.int .i64 a, .int .i64 t0, .int .i64 t1, .int .i64 t2, .int .i64 t3, .int .i64 u0, .int .i64 u1, .int .i64 u2, .int .i64 u3, .string s] 69)).alloc (.cells #[.int .i64 0, .int .i64 0, .int .i64 0, .int .i64 0, .int .i64 0, .int .i64 0, .int .i64 0, .bool false] 101)) := ((Below.refl _ _).alloc (Nat.le_refl _) _).alloc (by simp) _
  have hA1 : Below w.heap.size w (((w.alloc (.cells #[.int .i64 a, .int .i64 t0, .int .i64 t1, .int .i64 t2, .int .i64 t3, .int .i64 u0, .int .i64 u1, .int .i64 u2, .int .i64 u3, .string s] 69)).alloc (.cells #[.int .i64 0, .int .i64 0, .int .i64 0, .int .i64 0, .int .i64 0, .int .i64 0, .int .i64 0, .bool false] 101)).alloc (.cells #[.int .i64 0, .int .i64 cn] 74)) := hA0.alloc (by simp; omega) _
  have hoR : ObjAt (((w.alloc (.cells #[.int .i64 a, .int .i64 t0, .int .i64 t1, .int .i64 t2, .int .i64 t3, .int .i64 u0, .int .i64 u1, .int .i64 u2, .int .i64 u3, .string s] 69)).alloc (.cells #[.int .i64 0, .int .i64 0, .int .i64 0, .int .i64 0, .int .i64 0, .int .i64 0, .int .i64 0, .bool false] 101)).alloc (.cells #[.int .i64 0, .int .i64 cn] 74)) (w.heap.size + 1) 101 [.int .i64 0, .int .i64 0, .int .i64 0, .int .i64 0, .int .i64 0, .int .i64 0, .int .i64 0, .bool false] := (objNew (by simp)).alloc _
  have hoC : ObjAt (((w.alloc (.cells #[.int .i64 a, .int .i64 t0, .int .i64 t1, .int .i64 t2, .int .i64 t3, .int .i64 u0, .int .i64 u1, .int .i64 u2, .int .i64 u3, .string s] 69)).alloc (.cells #[.int .i64 0, .int .i64 0, .int .i64 0, .int .i64 0, .int .i64 0, .int .i64 0, .int .i64 0, .bool false] 101)).alloc (.cells #[.int .i64 0, .int .i64 cn] 74)) (w.heap.size + 2) 74 [.int .i64 0, .int .i64 cn] := objNew (by simp)
  have hS1 := h.below hA1
  have hoH : ObjAt (((w.alloc (.cells #[.int .i64 a, .int .i64 t0, .int .i64 t1, .int .i64 t2, .int .i64 t3, .int .i64 u0, .int .i64 u1, .int .i64 u2, .int .i64 u3, .string s] 69)).alloc (.cells #[.int .i64 0, .int .i64 0, .int .i64 0, .int .i64 0, .int .i64 0, .int .i64 0, .int .i64 0, .bool false] 101)).alloc (.cells #[.int .i64 0, .int .i64 cn] 74)) w.heap.size 69 [.int .i64 a, .int .i64 t0, .int .i64 t1, .int .i64 t2, .int .i64 t3, .int .i64 u0, .int .i64 u1, .int .i64 u2, .int .i64 u3, .string s] := ((ObjAt.new _ _ _).alloc _).alloc _
  obtain ⟨W1, hW1⟩ : ∃ W1, W1 = (((w.alloc (.cells #[.int .i64 a, .int .i64 t0, .int .i64 t1, .int .i64 t2, .int .i64 t3, .int .i64 u0, .int .i64 u1, .int .i64 u2, .int .i64 u3, .string s] 69)).alloc (.cells #[.int .i64 0, .int .i64 0, .int .i64 0, .int .i64 0, .int .i64 0, .int .i64 0, .int .i64 0, .bool false] 101)).alloc (.cells #[.int .i64 0, .int .i64 cn] 74)) := ⟨_, rfl⟩
  have hz1 : W1.heap.size = w.heap.size + 3 := by rw [hW1]; simp
  rw [← hW1] at hA1 hoR hoC hS1 hoH
  have HOH := hide hoH
  have HV1 := hide (HV.out.below hA1)
  have hnh : w.heap.size ∉ qS q v := fun hm => by
    rcases mem_qS.1 hm with e' | e'
    · omega
    · have := hvl _ e'; omega
  have HOR := hide hoR
  have HOC := hide hoC
  have HS1 := hide hS1
  have HKS : Hid (∀ w' : World, Below W1.heap.size W1 w' → w'.cell? ⟨b, 4, none⟩ = some (.pointer (some ⟨q, 0, none⟩)) ∧ w'.cell? ⟨w.heap.size + 2, 0, none⟩ = some (.int .i64 0) ∧ w'.cell? ⟨w.heap.size + 2, 1, none⟩ = some (.int .i64 cn)) :=
    fun w' hB => ⟨(HS1.out.below hB).obj.cell (i := 4) rfl, (HOC.out.below hB).cell (i := 0) rfl, (HOC.out.below hB).cell (i := 1) rfl⟩
  clear h h4 hoR hoC hS1 hA0 hW0 W0 hoH
  go_enter Tryz.func106, Tryz.ntmps106
  go_upto_region 4 with (fail)
  rw [← hW1]
  clear hW1 c4 c7
  have c4 := HS1.out.obj.cell (i := 4) rfl
  have hrr := Below.refl W1.heap.size W1
  obtain ⟨m4, m5, m6⟩ := HKS.out _ hrr
  go_region_held3 (fun w' => w'.cell? ⟨b, 4, none⟩ = some (.pointer (some ⟨q, 0, none⟩)) ∧ w'.cell? ⟨w.heap.size + 2, 0, none⟩ = some (.int .i64 0) ∧ w'.cell? ⟨w.heap.size + 2, 1, none⟩ = some (.int .i64 cn)) (first | assumption | trivial | exact HKS.out _ (by assumption) | (refine HKS.out _ ?_; go_grown) | go_keep)
    (first | (go_at_call 128; refine (OF.out _ (HS1.out.below (by go_grown : Below W1.heap.size W1 _)).que).mono ?_; rintro e5 w2 ⟨rfl, v2, hq2, hr2, hk2⟩; have HF2 := hide (wel_fin (ns := ns) hbl hql hvl hA1 (by omega) HS1.out HOR.out HOC.out _ w2 v2 (by go_grown) hq2 hr2 hk2); have HH2 := hide (hk2.obj (HOH.out.below (by go_grown : Below W1.heap.size W1 _)) hnh); have HRX := hide (hr2.pre (Below.size (by go_grown : Below W1.heap.size W1 _))); have HKX := hide ((Kept.of_below (by go_grown : Below W1.heap.size W1 _) _).trans (hk2.mono (S' := b :: qS q v) (fun x hx => List.mem_cons_of_mem _ hx))); have k4 := (HF2.out.1).obj.cell (i := 4) rfl; have k5 := (HF2.out.2.2.1).cell (i := 0) rfl; have k6 := (HF2.out.2.2.1).cell (i := 1) rfl; have KK : w2.cell? ⟨b, 4, none⟩ = some (.pointer (some ⟨q, 0, none⟩)) ∧ w2.cell? ⟨w.heap.size + 2, 0, none⟩ = some (.int .i64 0) ∧ w2.cell? ⟨w.heap.size + 2, 1, none⟩ = some (.int .i64 cn) := ⟨k4, k5, k6⟩; clear hq2 hr2 hk2))
  have s7 := HF2.out.1.obj.cell (i := 7) rfl
  have fr7 := HF2.out.1.obj.free 7
  have sz2 := HF2.out.2.2.2.1.size
  have hX1 := HF2.out.2.1.lt
  have hX2 := HF2.out.2.2.1.lt
  clear KK k4 k5 k6 hrr OF HKS HS1 HOC HOR c4 m4 m5 m6 HSQ
  go_upto_region 8 with (fail)
  obtain ⟨W3, hW3⟩ : ∃ W3, W3 = w2.setCell ⟨b, 7, none⟩ (.int .i64 (cn + 1)) := ⟨_, rfl⟩
  have HS3 : Hid (SQ W3 b e k o li q bi bv (cn + 1) v2 ns) := by
    rw [hW3]
    have g := HF2.out.1
    exact { obj := g.obj.set 7 _, que := ⟨g.que.1.setOther (a := ⟨b, 7, none⟩) (Ne.symm g.ne) _, g.que.2.1.setOther (a := ⟨b, 7, none⟩) (fun g' hg e' => g.row (by rw [hg]; exact congrArg some e')) _, g.que.2.2⟩, ne := g.ne, row := g.row }
  have HO3 : Hid (ObjAt W3 (w.heap.size + 1) 101 [.int .i64 0, .int .i64 0, .int .i64 0, .int .i64 0, .int .i64 0, .int .i64 0, .int .i64 0, .bool false]) := by rw [hW3]; exact HF2.out.2.1.setOther (a := ⟨b, 7, none⟩) (by show w.heap.size + 1 ≠ b; omega) _
  have HC3 : Hid (ObjAt W3 (w.heap.size + 2) 74 [.int .i64 0, .int .i64 cn]) := by rw [hW3]; exact HF2.out.2.2.1.setOther (a := ⟨b, 7, none⟩) (by show w.heap.size + 2 ≠ b; omega) _
  have HK3 : Hid (Kept (b :: qS q v) w W3) := by rw [hW3]; exact HF2.out.2.2.2.1.setCell (p := ⟨b, 7, none⟩) (Or.inl (List.mem_cons_self ..)) _
  have HH3 : Hid (ObjAt W3 w.heap.size 69 [.int .i64 a, .int .i64 t0, .int .i64 t1, .int .i64 t2, .int .i64 t3, .int .i64 u0, .int .i64 u1, .int .i64 u2, .int .i64 u3, .string s]) := by rw [hW3]; exact HH2.out.setOther (a := ⟨b, 7, none⟩) (by show w.heap.size ≠ b; omega) _
  have HK4 : Hid (Kept (b :: qS q v) W1 W3) := by rw [hW3]; exact HKX.out.setCell (p := ⟨b, 7, none⟩) (Or.inl (List.mem_cons_self ..)) _
  have HV3 := hide (HV1.out.steps (by have := hA1.size; omega) HS3.out HRX.out HK4.out)
  have hz3 : W1.heap.size ≤ W3.heap.size := HK4.out.size
  rw [← hW3]
  have HR3 := hide HF2.out.2.2.2.2
  clear hW3 s7 fr7 HF2
  have HKT : Hid (∀ w' : World, Below W3.heap.size W3 w' → w'.cell? ⟨b, 6, none⟩ = some (.pointer (some ⟨bv, 0, none⟩)) ∧ w'.cell? ⟨w.heap.size, 6, none⟩ = some (.int .i64 u1) ∧ w'.cell? ⟨w.heap.size, 7, none⟩ = some (.int .i64 u2)) := fun w' hB' => ⟨(HV3.out.1.below hB').obj.cell (i := 6) rfl, (HH3.out.below hB').cell (i := 6) rfl, (HH3.out.below hB').cell (i := 7) rfl⟩
  have hrr := Below.refl W3.heap.size W3
  obtain ⟨k6, k7, k8⟩ := HKT.out _ hrr
  have hB3 : B ≤ W3.heap.size := by have := hA1.size; omega
  clear HK3 HKX HRX HK4 HH2 HV1 HOH HS3 HR3
  go_region_held3 (fun w' => w'.cell? ⟨b, 6, none⟩ = some (.pointer (some ⟨bv, 0, none⟩)) ∧ w'.cell? ⟨w.heap.size, 6, none⟩ = some (.int .i64 u1) ∧ w'.cell? ⟨w.heap.size, 7, none⟩ = some (.int .i64 u2)) (first | with_reducible assumption | exact HKT.out _ (by assumption) | (refine HKT.out _ ?_; go_grown) | go_keep)
    (first | (go_at_call 129; refine (SP.out _ (HV3.out.1.below (by go_grown : Below W3.heap.size W3 _)).va).mono ?_; rintro e5 w4 ⟨rfl, va', hva4, hn4, hk4⟩; have HQ4 := hide ((HV3.out.1.below (by go_grown : Below W3.heap.size W3 _)).stepv (Nat.le_trans hB3 (Below.size (by go_grown : Below W3.heap.size W3 _))) hva4 (.inr (.inr hn4)) (.inl rfl) hk4); have HT4 := hide (HV3.out.2.trans (SVst.pre (by go_grown : Below W3.heap.size W3 _) HQ4.out.2)); have HO4 := hide (hk4.obj (HO3.out.below (by go_grown : Below W3.heap.size W3 _)) (by simp; omega)); have HC4 := hide (hk4.obj (HC3.out.below (by go_grown : Below W3.heap.size W3 _)) (by simp; omega)); have HH4 := hide (hk4.obj (HH3.out.below (by go_grown : Below W3.heap.size W3 _)) (by simp; omega)); have KK : w4.cell? ⟨b, 6, none⟩ = some (.pointer (some ⟨bv, 0, none⟩)) ∧ w4.cell? ⟨w.heap.size, 6, none⟩ = some (.int .i64 u1) ∧ w4.cell? ⟨w.heap.size, 7, none⟩ = some (.int .i64 u2) := ⟨HQ4.out.1.obj.cell (i := 6) rfl, HH4.out.cell (i := 6) rfl, HH4.out.cell (i := 7) rfl⟩; have hz4 : W3.heap.size ≤ w4.heap.size := Nat.le_trans (Below.size (by go_grown : Below W3.heap.size W3 _)) hk4.size; clear hva4 hn4 hk4))
  have c6 := HQ4.out.1.obj.cell (i := 6) rfl
  have SY := hide (vaSync bv w4 HQ4.out.1.va)
  clear hrr k6 k7 k8 SP HKT KK HO3 HC3 HH3 HH4 HV3
  go_wp2_with fail
  refine SY.out.mono ?_
  rintro r w5 ⟨rfl, vb', hvb5, hn5, hk5⟩
  have HQ5 := hide (HQ4.out.1.stepv (Nat.le_trans hB3 hz4) hvb5 (.inl rfl) (.inr (.inr hn5)) hk5)
  have HT5 := hide (HT4.out.trans HQ5.out.2)
  have HO5 := hide (hk5.obj HO4.out (by simp; omega))
  have HC5 := hide (hk5.obj HC4.out (by simp; omega))
  clear hvb5 hn5 hk5 SY HQ4 HT4 HO4 HC4 c6
  have c0 := HC5.out.cell (i := 0) rfl
  have c1 := HC5.out.cell (i := 1) rfl
  have r0 := HO5.out.cell (i := 0) rfl
  have f0 := HO5.out.free 0
  have r1 := HO5.out.cell (i := 1) rfl
  have f1 := HO5.out.free 1
  have r2 := HO5.out.cell (i := 2) rfl
  have f2 := HO5.out.free 2
  have r3 := HO5.out.cell (i := 3) rfl
  have f3 := HO5.out.free 3
  have r4 := HO5.out.cell (i := 4) rfl
  have f4 := HO5.out.free 4
  have r5 := HO5.out.cell (i := 5) rfl
  have f5 := HO5.out.free 5
  have r6 := HO5.out.cell (i := 6) rfl
  have f6 := HO5.out.free 6
  have r7 := HO5.out.cell (i := 7) rfl
  have f7 := HO5.out.free 7
  have hX5 := HT5.out.out (X := w.heap.size + 1) (by omega) (hnF _ (by omega))
  go_wp2
  exact bodyPost_ret (v := .tuple #[.agg #[.int .i64 1, .int .i64 0, .int .i64 0, .int .i64 0, .int .i64 0, .int .i64 0, .int .i64 cn, .bool true], .nilIface]) (by simp [results, Tryz.results106, go_sem, *]) rfl ⟨rfl, v2, va', vb', HQ5.out.1.set8 hX5 _ _ _ _ _ _ _ _, (SVst.pre hA1 HT5.out).set8 (Nat.le_succ _) _ _ _ _ _ _ _ _⟩
set_option maxRecDepth 100000 in
set_option maxHeartbeats 8000000 in
theorem sWelE_no {a t0 t1 t2 t3 u0 u1 u2 u3 : Int} {s : ByteArray} {now : Int} {B b q bi bb bv : Nat} {e k o li cn : Int} {v va vb : Value} {zs z1 z2 : List (Int × Int)} {n m many : Int} {ns : List (Int × Int)} (hns : zs ++ [(0, cn)] = ns) (hc : offE zs 0 cn = 0) (hcn : 0 ≤ cn ∧ cn < 4096) {c : Int} (hsp : spMoreE z1 u1 u2 now = c) (hsc : c ≠ 0) (w : World) (hB : B ≤ w.heap.size) (h : SV w B b q bi bb bv e k o li cn v va vb zs z1 z2 n m many) :
    Calls Tryz.prog 106 #[.pointer (some ⟨b, 0, none⟩), .agg #[.int .i64 a, .int .i64 t0, .int .i64 t1, .int .i64 t2, .int .i64 t3, .int .i64 u0, .int .i64 u1, .int .i64 u2, .int .i64 u3, .string s], .int .i64 now, .bool true] w fun r w' => r = .returned (.tuple #[.agg #[.int .i64 1, .int .i64 0, .int .i64 0, .int .i64 0, .int .i64 0, .int .i64 0, .int .i64 cn, .bool false], .nilIface]) ∧ ∃ v', SV w' B b q bi bb bv e k o li (cn + 1) v' va vb ns z1 z2 n m many ∧ SVst (svF b q bi bb bv v va vb) (svF b q bi bb bv v' va vb) w w' := by
  have OF := hide (fun W (h : QAt 110 W q v zs) => qOffer_ok hns hc q v W h)
  have h4 : cn ≠ 4096 := by omega
  have HV := hide h
  have hbv : bv < w.heap.size := h.va.1.lt
  have hnF : ∀ x, w.heap.size ≤ x → x ∉ svF b q bi bb bv v va vb := fun x hx hm => by have := (h.lt x hm).2; omega
  replace h := h.sq
  have SP := hide (fun W (h : VA W bv va vb z1 z2) => vaSpend_bad hsp hsc bv W h)
  have tsc : (c == 0) = false := beq_eq_false_iff_ne.2 hsc
  clear hsp hsc
  clear hc hns
  have c4 := h.obj.cell (i := 4) rfl
  have c7 := h.obj.cell (i := 7) rfl
  have hbl := h.obj.lt
  have hql := h.que.1.lt
  have hvl : ∀ g, v.ownBlock = some g → g < w.heap.size := fun g hg => h.que.2.1.lt g hg
  have tcn : (cn == 4096) = false := beq_eq_false_iff_ne.2 h4
  have HSQ := hide h
  obtain ⟨W0, hW0⟩ : ∃ W0, W0 = ((w.alloc (.cells #[.int .i64 a, .int .i64 t0, .int .i64 t1, .int .i64 t2, .int .i64 t3, .int .i64 u0, .int .i64 u1, .int .i64 u2, .int .i64 u3, .string s] 69)).alloc (.cells #[.int .i64 0, .int .i64 0, .int .i64 0, .int .i64 0, .int .i64 0, .int .i64 0, .int .i64 0, .bool false] 101)) := ⟨_, rfl⟩
  have hA0 : Below w.heap.size w ((w.alloc (.cells #[.int .i64 a, .int .i64 t0, .int .i64 t1, .int .i64 t2, .int .i64 t3, .int .i64 u0, .int .i64 u1, .int .i64 u2, .int .i64 u3, .string s] 69)).alloc (.cells #[.int .i64 0, .int .i64 0, .int .i64 0, .int .i64 0, .int .i64 0, .int .i64 0, .int .i64 0, .bool false] 101)) := ((Below.refl _ _).alloc (Nat.le_refl _) _).alloc (by simp) _
  have hA1 : Below w.heap.size w (((w.alloc (.cells #[.int .i64 a, .int .i64 t0, .int .i64 t1, .int .i64 t2, .int .i64 t3, .int .i64 u0, .int .i64 u1, .int .i64 u2, .int .i64 u3, .string s] 69)).alloc (.cells #[.int .i64 0, .int .i64 0, .int .i64 0, .int .i64 0, .int .i64 0, .int .i64 0, .int .i64 0, .bool false] 101)).alloc (.cells #[.int .i64 0, .int .i64 cn] 74)) := hA0.alloc (by simp; omega) _
  have hoR : ObjAt (((w.alloc (.cells #[.int .i64 a, .int .i64 t0, .int .i64 t1, .int .i64 t2, .int .i64 t3, .int .i64 u0, .int .i64 u1, .int .i64 u2, .int .i64 u3, .string s] 69)).alloc (.cells #[.int .i64 0, .int .i64 0, .int .i64 0, .int .i64 0, .int .i64 0, .int .i64 0, .int .i64 0, .bool false] 101)).alloc (.cells #[.int .i64 0, .int .i64 cn] 74)) (w.heap.size + 1) 101 [.int .i64 0, .int .i64 0, .int .i64 0, .int .i64 0, .int .i64 0, .int .i64 0, .int .i64 0, .bool false] := (objNew (by simp)).alloc _
  have hoC : ObjAt (((w.alloc (.cells #[.int .i64 a, .int .i64 t0, .int .i64 t1, .int .i64 t2, .int .i64 t3, .int .i64 u0, .int .i64 u1, .int .i64 u2, .int .i64 u3, .string s] 69)).alloc (.cells #[.int .i64 0, .int .i64 0, .int .i64 0, .int .i64 0, .int .i64 0, .int .i64 0, .int .i64 0, .bool false] 101)).alloc (.cells #[.int .i64 0, .int .i64 cn] 74)) (w.heap.size + 2) 74 [.int .i64 0, .int .i64 cn] := objNew (by simp)
  have hS1 := h.below hA1
  have hoH : ObjAt (((w.alloc (.cells #[.int .i64 a, .int .i64 t0, .int .i64 t1, .int .i64 t2, .int .i64 t3, .int .i64 u0, .int .i64 u1, .int .i64 u2, .int .i64 u3, .string s] 69)).alloc (.cells #[.int .i64 0, .int .i64 0, .int .i64 0, .int .i64 0, .int .i64 0, .int .i64 0, .int .i64 0, .bool false] 101)).alloc (.cells #[.int .i64 0, .int .i64 cn] 74)) w.heap.size 69 [.int .i64 a, .int .i64 t0, .int .i64 t1, .int .i64 t2, .int .i64 t3, .int .i64 u0, .int .i64 u1, .int .i64 u2, .int .i64 u3, .string s] := ((ObjAt.new _ _ _).alloc _).alloc _
  obtain ⟨W1, hW1⟩ : ∃ W1, W1 = (((w.alloc (.cells #[.int .i64 a, .int .i64 t0, .int .i64 t1, .int .i64 t2, .int .i64 t3, .int .i64 u0, .int .i64 u1, .int .i64 u2, .int .i64 u3, .string s] 69)).alloc (.cells #[.int .i64 0, .int .i64 0, .int .i64 0, .int .i64 0, .int .i64 0, .int .i64 0, .int .i64 0, .bool false] 101)).alloc (.cells #[.int .i64 0, .int .i64 cn] 74)) := ⟨_, rfl⟩
  have hz1 : W1.heap.size = w.heap.size + 3 := by rw [hW1]; simp
  rw [← hW1] at hA1 hoR hoC hS1 hoH
  have HOH := hide hoH
  have HV1 := hide (HV.out.below hA1)
  have hnh : w.heap.size ∉ qS q v := fun hm => by
    rcases mem_qS.1 hm with e' | e'
    · omega
    · have := hvl _ e'; omega
  have HOR := hide hoR
  have HOC := hide hoC
  have HS1 := hide hS1
  have HKS : Hid (∀ w' : World, Below W1.heap.size W1 w' → w'.cell? ⟨b, 4, none⟩ = some (.pointer (some ⟨q, 0, none⟩)) ∧ w'.cell? ⟨w.heap.size + 2, 0, none⟩ = some (.int .i64 0) ∧ w'.cell? ⟨w.heap.size + 2, 1, none⟩ = some (.int .i64 cn)) :=
    fun w' hB => ⟨(HS1.out.below hB).obj.cell (i := 4) rfl, (HOC.out.below hB).cell (i := 0) rfl, (HOC.out.below hB).cell (i := 1) rfl⟩
  clear h h4 hoR hoC hS1 hA0 hW0 W0 hoH
  go_enter Tryz.func106, Tryz.ntmps106
  go_upto_region 4 with (fail)
  rw [← hW1]
  clear hW1 c4 c7
  have c4 := HS1.out.obj.cell (i := 4) rfl
  have hrr := Below.refl W1.heap.size W1
  obtain ⟨m4, m5, m6⟩ := HKS.out _ hrr
  go_region_held3 (fun w' => w'.cell? ⟨b, 4, none⟩ = some (.pointer (some ⟨q, 0, none⟩)) ∧ w'.cell? ⟨w.heap.size + 2, 0, none⟩ = some (.int .i64 0) ∧ w'.cell? ⟨w.heap.size + 2, 1, none⟩ = some (.int .i64 cn)) (first | assumption | trivial | exact HKS.out _ (by assumption) | (refine HKS.out _ ?_; go_grown) | go_keep)
    (first | (go_at_call 128; refine (OF.out _ (HS1.out.below (by go_grown : Below W1.heap.size W1 _)).que).mono ?_; rintro e5 w2 ⟨rfl, v2, hq2, hr2, hk2⟩; have HF2 := hide (wel_fin (ns := ns) hbl hql hvl hA1 (by omega) HS1.out HOR.out HOC.out _ w2 v2 (by go_grown) hq2 hr2 hk2); have HH2 := hide (hk2.obj (HOH.out.below (by go_grown : Below W1.heap.size W1 _)) hnh); have HRX := hide (hr2.pre (Below.size (by go_grown : Below W1.heap.size W1 _))); have HKX := hide ((Kept.of_below (by go_grown : Below W1.heap.size W1 _) _).trans (hk2.mono (S' := b :: qS q v) (fun x hx => List.mem_cons_of_mem _ hx))); have k4 := (HF2.out.1).obj.cell (i := 4) rfl; have k5 := (HF2.out.2.2.1).cell (i := 0) rfl; have k6 := (HF2.out.2.2.1).cell (i := 1) rfl; have KK : w2.cell? ⟨b, 4, none⟩ = some (.pointer (some ⟨q, 0, none⟩)) ∧ w2.cell? ⟨w.heap.size + 2, 0, none⟩ = some (.int .i64 0) ∧ w2.cell? ⟨w.heap.size + 2, 1, none⟩ = some (.int .i64 cn) := ⟨k4, k5, k6⟩; clear hq2 hr2 hk2))
  have s7 := HF2.out.1.obj.cell (i := 7) rfl
  have fr7 := HF2.out.1.obj.free 7
  have sz2 := HF2.out.2.2.2.1.size
  have hX1 := HF2.out.2.1.lt
  have hX2 := HF2.out.2.2.1.lt
  clear KK k4 k5 k6 hrr OF HKS HS1 HOC HOR c4 m4 m5 m6 HSQ
  go_upto_region 8 with (fail)
  obtain ⟨W3, hW3⟩ : ∃ W3, W3 = w2.setCell ⟨b, 7, none⟩ (.int .i64 (cn + 1)) := ⟨_, rfl⟩
  have HS3 : Hid (SQ W3 b e k o li q bi bv (cn + 1) v2 ns) := by
    rw [hW3]
    have g := HF2.out.1
    exact { obj := g.obj.set 7 _, que := ⟨g.que.1.setOther (a := ⟨b, 7, none⟩) (Ne.symm g.ne) _, g.que.2.1.setOther (a := ⟨b, 7, none⟩) (fun g' hg e' => g.row (by rw [hg]; exact congrArg some e')) _, g.que.2.2⟩, ne := g.ne, row := g.row }
  have HO3 : Hid (ObjAt W3 (w.heap.size + 1) 101 [.int .i64 0, .int .i64 0, .int .i64 0, .int .i64 0, .int .i64 0, .int .i64 0, .int .i64 0, .bool false]) := by rw [hW3]; exact HF2.out.2.1.setOther (a := ⟨b, 7, none⟩) (by show w.heap.size + 1 ≠ b; omega) _
  have HC3 : Hid (ObjAt W3 (w.heap.size + 2) 74 [.int .i64 0, .int .i64 cn]) := by rw [hW3]; exact HF2.out.2.2.1.setOther (a := ⟨b, 7, none⟩) (by show w.heap.size + 2 ≠ b; omega) _
  have HK3 : Hid (Kept (b :: qS q v) w W3) := by rw [hW3]; exact HF2.out.2.2.2.1.setCell (p := ⟨b, 7, none⟩) (Or.inl (List.mem_cons_self ..)) _
  have HH3 : Hid (ObjAt W3 w.heap.size 69 [.int .i64 a, .int .i64 t0, .int .i64 t1, .int .i64 t2, .int .i64 t3, .int .i64 u0, .int .i64 u1, .int .i64 u2, .int .i64 u3, .string s]) := by rw [hW3]; exact HH2.out.setOther (a := ⟨b, 7, none⟩) (by show w.heap.size ≠ b; omega) _
  have HK4 : Hid (Kept (b :: qS q v) W1 W3) := by rw [hW3]; exact HKX.out.setCell (p := ⟨b, 7, none⟩) (Or.inl (List.mem_cons_self ..)) _
  have HV3 := hide (HV1.out.steps (by have := hA1.size; omega) HS3.out HRX.out HK4.out)
  have hz3 : W1.heap.size ≤ W3.heap.size := HK4.out.size
  rw [← hW3]
  have HR3 := hide HF2.out.2.2.2.2
  clear hW3 s7 fr7 HF2
  have HKT : Hid (∀ w' : World, Below W3.heap.size W3 w' → w'.cell? ⟨b, 6, none⟩ = some (.pointer (some ⟨bv, 0, none⟩)) ∧ w'.cell? ⟨w.heap.size, 6, none⟩ = some (.int .i64 u1) ∧ w'.cell? ⟨w.heap.size, 7, none⟩ = some (.int .i64 u2)) := fun w' hB' => ⟨(HV3.out.1.below hB').obj.cell (i := 6) rfl, (HH3.out.below hB').cell (i := 6) rfl, (HH3.out.below hB').cell (i := 7) rfl⟩
  have hrr := Below.refl W3.heap.size W3
  obtain ⟨k6, k7, k8⟩ := HKT.out _ hrr
  have hB3 : B ≤ W3.heap.size := by have := hA1.size; omega
  clear HK3 HKX HRX HK4 HH2 HV1 HOH HS3 HR3
  go_region_held3 (fun w' => w'.cell? ⟨b, 6, none⟩ = some (.pointer (some ⟨bv, 0, none⟩)) ∧ w'.cell? ⟨w.heap.size, 6, none⟩ = some (.int .i64 u1) ∧ w'.cell? ⟨w.heap.size, 7, none⟩ = some (.int .i64 u2)) (first | with_reducible assumption | exact HKT.out _ (by assumption) | (refine HKT.out _ ?_; go_grown) | go_keep)
    (first | (go_at_call 129; refine (SP.out _ (HV3.out.1.below (by go_grown : Below W3.heap.size W3 _)).va).mono ?_; rintro e5 w5 ⟨rfl, hb5⟩; have hw5 : Below W3.heap.size W3 w5 := Below.trans (by go_grown) (Below.mono hb5 (by first | omega | (simp; done) | (simp; omega))); have KK := HKT.out _ hw5))
  have HQ5 := hide (HV3.out.1.below hw5)
  have HT5 := hide (HV3.out.2.post hw5)
  have HO5 := hide (HO3.out.below hw5)
  have HC5 := hide (HC3.out.below hw5)
  clear hrr k6 k7 k8 SP HKT KK HO3 HC3 HH3 HV3 hb5 hw5
  have c0 := HC5.out.cell (i := 0) rfl
  have c1 := HC5.out.cell (i := 1) rfl
  have r0 := HO5.out.cell (i := 0) rfl
  have f0 := HO5.out.free 0
  have r1 := HO5.out.cell (i := 1) rfl
  have f1 := HO5.out.free 1
  have r2 := HO5.out.cell (i := 2) rfl
  have f2 := HO5.out.free 2
  have r3 := HO5.out.cell (i := 3) rfl
  have f3 := HO5.out.free 3
  have r4 := HO5.out.cell (i := 4) rfl
  have f4 := HO5.out.free 4
  have r5 := HO5.out.cell (i := 5) rfl
  have f5 := HO5.out.free 5
  have r6 := HO5.out.cell (i := 6) rfl
  have f6 := HO5.out.free 6
  have r7 := HO5.out.cell (i := 7) rfl
  have f7 := HO5.out.free 7
  have hX5 := HT5.out.out (X := w.heap.size + 1) (by omega) (hnF _ (by omega))
  go_wp2
  exact bodyPost_ret (v := .tuple #[.agg #[.int .i64 1, .int .i64 0, .int .i64 0, .int .i64 0, .int .i64 0, .int .i64 0, .int .i64 cn, .bool false], .nilIface]) (by simp [results, Tryz.results106, go_sem, *]) rfl ⟨rfl, v2, HQ5.out.set8 hX5 _ _ _ _ _ _ _ _, (SVst.pre hA1 HT5.out).set8 (Nat.le_succ _) _ _ _ _ _ _ _ _⟩
end Go.Proofs.YtlnghfmcofmkjaaGreatDoor
