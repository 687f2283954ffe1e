/- foldref2.Server: Hello by contracts, where nobody is welcome. -/
import Derived.Test.YtlnghfmcofmkjaaGreatDoorRunAnswersProofM16
import Derived.Test.YtlnghfmcofmkjaaGreatDoorRAnswer
import Derived.Test.YtlnghfmcofmkjaaGreatDoorWelcome
import Derived.Deep.Cut
import Derived.BigQuiet
import Derived.Deep.QuietTactic
namespace Go.Proofs.YtlnghfmcofmkjaaGreatDoor
open Go.RowKit

theorem rs_fin8 {B X : Nat} {a w : World} (h : Below B a w) (hX : B ≤ X) (hs : B ≤ w.heap.size) (x0 x1 x2 x3 x4 x5 x6 x7 : Value) (o1 o2 : Obj) : Below B a ((((((((((((w.setCell ⟨X, 0, none⟩ x0).setCell ⟨X, 1, none⟩ x1).setCell ⟨X, 2, none⟩ x2).setCell ⟨X, 3, none⟩ x3).setCell ⟨X, 4, none⟩ x4).setCell ⟨X, 5, none⟩ x5).setCell ⟨X, 6, none⟩ x6).setCell ⟨X, 7, none⟩ x7).alloc o1).alloc o2)).drew) :=
  (((bel_set8 h hX x0 x1 x2 x3 x4 x5 x6 x7).alloc (by simpa using hs) _).alloc (by simp; omega) _).drew

set_option maxRecDepth 100000 in
set_option maxHeartbeats 8000000 in
theorem rsHello_err {a t0 t1 t2 t3 u0 u1 u2 u3 : Int} {s : ByteArray} {now : Int} {b : Nat} {e k o li n m cn : Int} {v vn vk : Value} {zs z1 z2 : List (Int × Int)} {n' c : Int} {eb : Bool} (hsz : s.size ≤ 9223372036854775807) (hA : ansN e k o a t0 t1 t2 t3 u0 u1 u2 u3 s (zs.length : Int) now li = (n', eb, c)) (h0 : c ≠ 0) (w : World) (h : RV w b e k o li n m cn v vn vk zs z1 z2) :
    Calls Tryz.prog 39 #[.pointer (some ⟨b, 0, none⟩), .agg #[.int .i64 a, .int .i64 t0, .int .i64 t1, .int .i64 t2, .int .i64 t3, .int .i64 u0, .int .i64 u1, .int .i64 u2, .int .i64 u3, .string s], .int .i64 now] w fun r w' => r = .returned (.tuple #[.agg #[.int .i64 0, .int .i64 0, .int .i64 0, .int .i64 0, .int .i64 0, .int .i64 0, .int .i64 0, .bool false], .int .i64 c]) ∧ Below w.heap.size w w' := by
  have tc1 : (c != 0) = true := bne_iff_ne.2 h0
  clear h0
  have hbl := h.q.1.lt
  obtain ⟨av, cv, rfl⟩ := qrow_form h.q.2.1
  have hzl : zs.length ≤ 900 := h.q.2.1.1
  have hFl := h.lt
  have JA := hide (fun W => rAnswer (wt := (zs.length : Int)) hsz hA W)
  have hA1 : Below w.heap.size w ((w.alloc (.cells #[.int .i64 a, .int .i64 t0, .int .i64 t1, .int .i64 t2, .int .i64 t3, .int .i64 u0, .int .i64 u1, .int .i64 u2, .int .i64 u3, .string s] 69)).alloc (.cells #[.int .i64 0, .int .i64 0, .int .i64 0, .int .i64 0, .int .i64 0, .int .i64 0, .int .i64 0, .bool false] 101)) := ((Below.refl _ _).alloc (Nat.le_refl _) _).alloc (by simp) _
  have hoH : ObjAt ((w.alloc (.cells #[.int .i64 a, .int .i64 t0, .int .i64 t1, .int .i64 t2, .int .i64 t3, .int .i64 u0, .int .i64 u1, .int .i64 u2, .int .i64 u3, .string s] 69)).alloc (.cells #[.int .i64 0, .int .i64 0, .int .i64 0, .int .i64 0, .int .i64 0, .int .i64 0, .int .i64 0, .bool false] 101)) w.heap.size 69 [.int .i64 a, .int .i64 t0, .int .i64 t1, .int .i64 t2, .int .i64 t3, .int .i64 u0, .int .i64 u1, .int .i64 u2, .int .i64 u3, .string s] := (ObjAt.new _ _ _).alloc _
  have hoR : ObjAt ((w.alloc (.cells #[.int .i64 a, .int .i64 t0, .int .i64 t1, .int .i64 t2, .int .i64 t3, .int .i64 u0, .int .i64 u1, .int .i64 u2, .int .i64 u3, .string s] 69)).alloc (.cells #[.int .i64 0, .int .i64 0, .int .i64 0, .int .i64 0, .int .i64 0, .int .i64 0, .int .i64 0, .bool false] 101)) (w.heap.size + 1) 101 [.int .i64 0, .int .i64 0, .int .i64 0, .int .i64 0, .int .i64 0, .int .i64 0, .int .i64 0, .bool false] := objNew (by simp)
  have hV1 := h.below hA1
  obtain ⟨W1, hW1⟩ : ∃ W1, W1 = ((w.alloc (.cells #[.int .i64 a, .int .i64 t0, .int .i64 t1, .int .i64 t2, .int .i64 t3, .int .i64 u0, .int .i64 u1, .int .i64 u2, .int .i64 u3, .string s] 69)).alloc (.cells #[.int .i64 0, .int .i64 0, .int .i64 0, .int .i64 0, .int .i64 0, .int .i64 0, .int .i64 0, .bool false] 101)) := ⟨_, rfl⟩
  have hz1 : W1.heap.size = w.heap.size + 2 := by rw [hW1]; simp
  rw [← hW1] at hA1 hoH hoR hV1
  have HOR := hide hoR
  have HOH := hide hoH
  have HV1 := hide hV1
  have HKS : Hid (∀ w' : World, Below W1.heap.size W1 w' → w'.cell? ⟨b, 0, none⟩ = some (.int .i64 e) ∧ w'.cell? ⟨b, 1, none⟩ = some (.int .i64 k) ∧ w'.cell? ⟨b, 2, none⟩ = some (.int .i64 o) ∧ w'.cell? ⟨b, 3, none⟩ = some (.int .i64 li) ∧ w'.cell? ⟨b, 4, none⟩ = some (.slice av zs.length cv) ∧ w'.cell? ⟨w.heap.size, 0, none⟩ = some (.int .i64 a) ∧ w'.cell? ⟨w.heap.size, 1, none⟩ = some (.int .i64 t0) ∧ w'.cell? ⟨w.heap.size, 2, none⟩ = some (.int .i64 t1) ∧ w'.cell? ⟨w.heap.size, 3, none⟩ = some (.int .i64 t2) ∧ w'.cell? ⟨w.heap.size, 4, none⟩ = some (.int .i64 t3) ∧ w'.cell? ⟨w.heap.size, 5, none⟩ = some (.int .i64 u0) ∧ w'.cell? ⟨w.heap.size, 6, none⟩ = some (.int .i64 u1) ∧ w'.cell? ⟨w.heap.size, 7, none⟩ = some (.int .i64 u2) ∧ w'.cell? ⟨w.heap.size, 8, none⟩ = some (.int .i64 u3) ∧ w'.cell? ⟨w.heap.size, 9, none⟩ = some (.string s)) := fun w' hB => ⟨(HV1.out.below hB).q.1.cell (i := 0) rfl, (HV1.out.below hB).q.1.cell (i := 1) rfl, (HV1.out.below hB).q.1.cell (i := 2) rfl, (HV1.out.below hB).q.1.cell (i := 3) rfl, (HV1.out.below hB).q.1.cell (i := 4) rfl, (HOH.out.below hB).cell (i := 0) rfl, (HOH.out.below hB).cell (i := 1) rfl, (HOH.out.below hB).cell (i := 2) rfl, (HOH.out.below hB).cell (i := 3) rfl, (HOH.out.below hB).cell (i := 4) rfl, (HOH.out.below hB).cell (i := 5) rfl, (HOH.out.below hB).cell (i := 6) rfl, (HOH.out.below hB).cell (i := 7) rfl, (HOH.out.below hB).cell (i := 8) rfl, (HOH.out.below hB).cell (i := 9) rfl⟩
  have HV0 := hide h
  clear h hoH hoR hV1 hA hsz
  go_enter Tryz.func39, Tryz.ntmps39
  go_upto_region 1 with (fail)
  rw [← hW1]
  clear hW1
  have hrr := Below.refl W1.heap.size W1
  obtain ⟨mm0, mm1, mm2, mm3, mm4, mm5, mm6, mm7, mm8, mm9, mm10, mm11, mm12, mm13, mm14⟩ := HKS.out _ hrr
  go_region_held3 (fun w' => w'.cell? ⟨b, 0, none⟩ = some (.int .i64 e) ∧ w'.cell? ⟨b, 1, none⟩ = some (.int .i64 k) ∧ w'.cell? ⟨b, 2, none⟩ = some (.int .i64 o) ∧ w'.cell? ⟨b, 3, none⟩ = some (.int .i64 li) ∧ w'.cell? ⟨b, 4, none⟩ = some (.slice av zs.length cv) ∧ w'.cell? ⟨w.heap.size, 0, none⟩ = some (.int .i64 a) ∧ w'.cell? ⟨w.heap.size, 1, none⟩ = some (.int .i64 t0) ∧ w'.cell? ⟨w.heap.size, 2, none⟩ = some (.int .i64 t1) ∧ w'.cell? ⟨w.heap.size, 3, none⟩ = some (.int .i64 t2) ∧ w'.cell? ⟨w.heap.size, 4, none⟩ = some (.int .i64 t3) ∧ w'.cell? ⟨w.heap.size, 5, none⟩ = some (.int .i64 u0) ∧ w'.cell? ⟨w.heap.size, 6, none⟩ = some (.int .i64 u1) ∧ w'.cell? ⟨w.heap.size, 7, none⟩ = some (.int .i64 u2) ∧ w'.cell? ⟨w.heap.size, 8, none⟩ = some (.int .i64 u3) ∧ w'.cell? ⟨w.heap.size, 9, none⟩ = some (.string s)) (first | exact HKS.out _ (by assumption) | (refine HKS.out _ ?_; go_grown) | go_keep)
    (first | (go_at_call 56; refine (JA.out _).mono ?_; rintro e6 w3 ⟨rfl, hb3⟩; have hw3 : Below W1.heap.size W1 w3 := Below.trans (by go_grown) (Below.mono hb3 (by first | omega | (simp; done) | (simp; omega))); have hs3 := hw3.size; obtain ⟨c3, d3⟩ := bcell hb3))
  have HB3 := hide (hA1.trans (hw3.mono (by omega)))
  have HV3 := hide (HV1.out.below hw3)
  have HR3 := hide (HOR.out.below hw3)
  have HH3 := hide (HOH.out.below hw3)
  clear hb3 hw3 c3 d3 hrr JA HV1 HOR HOH mm0 mm1 mm2 mm3 mm4 mm5 mm6 mm7 mm8 mm9 mm10 mm11 mm12 mm13 mm14
  clear HV3 HH3 HKS HV0 hFl
  have r0 := HR3.out.cell (i := 0) rfl
  have f0 := HR3.out.free 0
  have r1 := HR3.out.cell (i := 1) rfl
  have f1 := HR3.out.free 1
  have r2 := HR3.out.cell (i := 2) rfl
  have f2 := HR3.out.free 2
  have r3 := HR3.out.cell (i := 3) rfl
  have f3 := HR3.out.free 3
  have r4 := HR3.out.cell (i := 4) rfl
  have f4 := HR3.out.free 4
  have r5 := HR3.out.cell (i := 5) rfl
  have f5 := HR3.out.free 5
  have r6 := HR3.out.cell (i := 6) rfl
  have f6 := HR3.out.free 6
  have r7 := HR3.out.cell (i := 7) rfl
  have f7 := HR3.out.free 7
  go_wp2
  exact bodyPost_ret (v := .tuple #[.agg #[.int .i64 0, .int .i64 0, .int .i64 0, .int .i64 0, .int .i64 0, .int .i64 0, .int .i64 0, .bool false], .int .i64 c]) (by simp [results, Tryz.results39, go_sem, *]) rfl ⟨rfl, bel_set8 HB3.out (Nat.le_succ _) _ _ _ _ _ _ _ _⟩
set_option maxRecDepth 100000 in
set_option maxHeartbeats 8000000 in
theorem rsHello_busy {a t0 t1 t2 t3 u0 u1 u2 u3 : Int} {s : ByteArray} {now : Int} {b : Nat} {e k o li n m cn : Int} {v vn vk : Value} {zs z1 z2 : List (Int × Int)} {eb : Bool} (hsz : s.size ≤ 9223372036854775807) (hA : ansN e k o a t0 t1 t2 t3 u0 u1 u2 u3 s (zs.length : Int) now li = (2, eb, 0)) (w : World) (h : RV w b e k o li n m cn v vn vk zs z1 z2) :
    Calls Tryz.prog 39 #[.pointer (some ⟨b, 0, none⟩), .agg #[.int .i64 a, .int .i64 t0, .int .i64 t1, .int .i64 t2, .int .i64 t3, .int .i64 u0, .int .i64 u1, .int .i64 u2, .int .i64 u3, .string s], .int .i64 now] w fun r w' => r = .returned (.tuple #[.agg #[.int .i64 2, .int .i64 0, .int .i64 0, .int .i64 0, .int .i64 0, .int .i64 0, .int .i64 0, .bool false], .int .i64 0]) ∧ Below w.heap.size w w' := by
  have hq0 : True := trivial
  have hbl := h.q.1.lt
  obtain ⟨av, cv, rfl⟩ := qrow_form h.q.2.1
  have hzl : zs.length ≤ 900 := h.q.2.1.1
  have hFl := h.lt
  have JA := hide (fun W => rAnswer (wt := (zs.length : Int)) hsz hA W)
  have hA1 : Below w.heap.size w ((w.alloc (.cells #[.int .i64 a, .int .i64 t0, .int .i64 t1, .int .i64 t2, .int .i64 t3, .int .i64 u0, .int .i64 u1, .int .i64 u2, .int .i64 u3, .string s] 69)).alloc (.cells #[.int .i64 0, .int .i64 0, .int .i64 0, .int .i64 0, .int .i64 0, .int .i64 0, .int .i64 0, .bool false] 101)) := ((Below.refl _ _).alloc (Nat.le_refl _) _).alloc (by simp) _
  have hoH : ObjAt ((w.alloc (.cells #[.int .i64 a, .int .i64 t0, .int .i64 t1, .int .i64 t2, .int .i64 t3, .int .i64 u0, .int .i64 u1, .int .i64 u2, .int .i64 u3, .string s] 69)).alloc (.cells #[.int .i64 0, .int .i64 0, .int .i64 0, .int .i64 0, .int .i64 0, .int .i64 0, .int .i64 0, .bool false] 101)) w.heap.size 69 [.int .i64 a, .int .i64 t0, .int .i64 t1, .int .i64 t2, .int .i64 t3, .int .i64 u0, .int .i64 u1, .int .i64 u2, .int .i64 u3, .string s] := (ObjAt.new _ _ _).alloc _
  have hoR : ObjAt ((w.alloc (.cells #[.int .i64 a, .int .i64 t0, .int .i64 t1, .int .i64 t2, .int .i64 t3, .int .i64 u0, .int .i64 u1, .int .i64 u2, .int .i64 u3, .string s] 69)).alloc (.cells #[.int .i64 0, .int .i64 0, .int .i64 0, .int .i64 0, .int .i64 0, .int .i64 0, .int .i64 0, .bool false] 101)) (w.heap.size + 1) 101 [.int .i64 0, .int .i64 0, .int .i64 0, .int .i64 0, .int .i64 0, .int .i64 0, .int .i64 0, .bool false] := objNew (by simp)
  have hV1 := h.below hA1
  obtain ⟨W1, hW1⟩ : ∃ W1, W1 = ((w.alloc (.cells #[.int .i64 a, .int .i64 t0, .int .i64 t1, .int .i64 t2, .int .i64 t3, .int .i64 u0, .int .i64 u1, .int .i64 u2, .int .i64 u3, .string s] 69)).alloc (.cells #[.int .i64 0, .int .i64 0, .int .i64 0, .int .i64 0, .int .i64 0, .int .i64 0, .int .i64 0, .bool false] 101)) := ⟨_, rfl⟩
  have hz1 : W1.heap.size = w.heap.size + 2 := by rw [hW1]; simp
  rw [← hW1] at hA1 hoH hoR hV1
  have HOR := hide hoR
  have HOH := hide hoH
  have HV1 := hide hV1
  have HKS : Hid (∀ w' : World, Below W1.heap.size W1 w' → w'.cell? ⟨b, 0, none⟩ = some (.int .i64 e) ∧ w'.cell? ⟨b, 1, none⟩ = some (.int .i64 k) ∧ w'.cell? ⟨b, 2, none⟩ = some (.int .i64 o) ∧ w'.cell? ⟨b, 3, none⟩ = some (.int .i64 li) ∧ w'.cell? ⟨b, 4, none⟩ = some (.slice av zs.length cv) ∧ w'.cell? ⟨w.heap.size, 0, none⟩ = some (.int .i64 a) ∧ w'.cell? ⟨w.heap.size, 1, none⟩ = some (.int .i64 t0) ∧ w'.cell? ⟨w.heap.size, 2, none⟩ = some (.int .i64 t1) ∧ w'.cell? ⟨w.heap.size, 3, none⟩ = some (.int .i64 t2) ∧ w'.cell? ⟨w.heap.size, 4, none⟩ = some (.int .i64 t3) ∧ w'.cell? ⟨w.heap.size, 5, none⟩ = some (.int .i64 u0) ∧ w'.cell? ⟨w.heap.size, 6, none⟩ = some (.int .i64 u1) ∧ w'.cell? ⟨w.heap.size, 7, none⟩ = some (.int .i64 u2) ∧ w'.cell? ⟨w.heap.size, 8, none⟩ = some (.int .i64 u3) ∧ w'.cell? ⟨w.heap.size, 9, none⟩ = some (.string s)) := fun w' hB => ⟨(HV1.out.below hB).q.1.cell (i := 0) rfl, (HV1.out.below hB).q.1.cell (i := 1) rfl, (HV1.out.below hB).q.1.cell (i := 2) rfl, (HV1.out.below hB).q.1.cell (i := 3) rfl, (HV1.out.below hB).q.1.cell (i := 4) rfl, (HOH.out.below hB).cell (i := 0) rfl, (HOH.out.below hB).cell (i := 1) rfl, (HOH.out.below hB).cell (i := 2) rfl, (HOH.out.below hB).cell (i := 3) rfl, (HOH.out.below hB).cell (i := 4) rfl, (HOH.out.below hB).cell (i := 5) rfl, (HOH.out.below hB).cell (i := 6) rfl, (HOH.out.below hB).cell (i := 7) rfl, (HOH.out.below hB).cell (i := 8) rfl, (HOH.out.below hB).cell (i := 9) rfl⟩
  have HV0 := hide h
  clear h hoH hoR hV1 hA hsz
  go_enter Tryz.func39, Tryz.ntmps39
  go_upto_region 1 with (fail)
  rw [← hW1]
  clear hW1
  have hrr := Below.refl W1.heap.size W1
  obtain ⟨mm0, mm1, mm2, mm3, mm4, mm5, mm6, mm7, mm8, mm9, mm10, mm11, mm12, mm13, mm14⟩ := HKS.out _ hrr
  go_region_held3 (fun w' => w'.cell? ⟨b, 0, none⟩ = some (.int .i64 e) ∧ w'.cell? ⟨b, 1, none⟩ = some (.int .i64 k) ∧ w'.cell? ⟨b, 2, none⟩ = some (.int .i64 o) ∧ w'.cell? ⟨b, 3, none⟩ = some (.int .i64 li) ∧ w'.cell? ⟨b, 4, none⟩ = some (.slice av zs.length cv) ∧ w'.cell? ⟨w.heap.size, 0, none⟩ = some (.int .i64 a) ∧ w'.cell? ⟨w.heap.size, 1, none⟩ = some (.int .i64 t0) ∧ w'.cell? ⟨w.heap.size, 2, none⟩ = some (.int .i64 t1) ∧ w'.cell? ⟨w.heap.size, 3, none⟩ = some (.int .i64 t2) ∧ w'.cell? ⟨w.heap.size, 4, none⟩ = some (.int .i64 t3) ∧ w'.cell? ⟨w.heap.size, 5, none⟩ = some (.int .i64 u0) ∧ w'.cell? ⟨w.heap.size, 6, none⟩ = some (.int .i64 u1) ∧ w'.cell? ⟨w.heap.size, 7, none⟩ = some (.int .i64 u2) ∧ w'.cell? ⟨w.heap.size, 8, none⟩ = some (.int .i64 u3) ∧ w'.cell? ⟨w.heap.size, 9, none⟩ = some (.string s)) (first | exact HKS.out _ (by assumption) | (refine HKS.out _ ?_; go_grown) | go_keep)
    (first | (go_at_call 56; refine (JA.out _).mono ?_; rintro e6 w3 ⟨rfl, hb3⟩; have hw3 : Below W1.heap.size W1 w3 := Below.trans (by go_grown) (Below.mono hb3 (by first | omega | (simp; done) | (simp; omega))); have hs3 := hw3.size; obtain ⟨c3, d3⟩ := bcell hb3))
  have HB3 := hide (hA1.trans (hw3.mono (by omega)))
  have HV3 := hide (HV1.out.below hw3)
  have HR3 := hide (HOR.out.below hw3)
  have HH3 := hide (HOH.out.below hw3)
  clear hb3 hw3 c3 d3 hrr JA HV1 HOR HOH mm0 mm1 mm2 mm3 mm4 mm5 mm6 mm7 mm8 mm9 mm10 mm11 mm12 mm13 mm14
  clear HV3 HH3 HKS HV0 hFl hq0
  have r0 := HR3.out.cell (i := 0) rfl
  have f0 := HR3.out.free 0
  have r1 := HR3.out.cell (i := 1) rfl
  have f1 := HR3.out.free 1
  have r2 := HR3.out.cell (i := 2) rfl
  have f2 := HR3.out.free 2
  have r3 := HR3.out.cell (i := 3) rfl
  have f3 := HR3.out.free 3
  have r4 := HR3.out.cell (i := 4) rfl
  have f4 := HR3.out.free 4
  have r5 := HR3.out.cell (i := 5) rfl
  have f5 := HR3.out.free 5
  have r6 := HR3.out.cell (i := 6) rfl
  have f6 := HR3.out.free 6
  have r7 := HR3.out.cell (i := 7) rfl
  have f7 := HR3.out.free 7
  go_wp2
  exact bodyPost_ret (v := .tuple #[.agg #[.int .i64 2, .int .i64 0, .int .i64 0, .int .i64 0, .int .i64 0, .int .i64 0, .int .i64 0, .bool false], .int .i64 0]) (by simp [results, Tryz.results39, go_sem, *]) rfl ⟨rfl, bel_set8 HB3.out (Nat.le_succ _) _ _ _ _ _ _ _ _⟩
set_option maxRecDepth 100000 in
set_option maxHeartbeats 8000000 in
theorem rsHello_retry {a t0 t1 t2 t3 u0 u1 u2 u3 : Int} {s : ByteArray} {now : Int} {b : Nat} {e k o li n m cn : Int} {v vn vk : Value} {zs z1 z2 : List (Int × Int)} {eb : Bool} (hsz : s.size ≤ 9223372036854775807) (hA : ansN e k o a t0 t1 t2 t3 u0 u1 u2 u3 s (zs.length : Int) now li = (0, eb, 0)) (hk : 0 ≤ k ∧ k < 999983) (ha : inB a = true) (ht : tmB now = true) (w : World) (h : RV w b e k o li n m cn v vn vk zs z1 z2) :
    Calls Tryz.prog 39 #[.pointer (some ⟨b, 0, none⟩), .agg #[.int .i64 a, .int .i64 t0, .int .i64 t1, .int .i64 t2, .int .i64 t3, .int .i64 u0, .int .i64 u1, .int .i64 u2, .int .i64 u3, .string s], .int .i64 now] w fun r w' => r = .returned (.tuple #[.agg #[.int .i64 0, .int .i64 e, .int .i64 a, .int .i64 now, .int .i64 (tagOf k [1, a, now]), .int .i64 0, .int .i64 0, .bool false], .int .i64 0]) ∧ Below w.heap.size w w' := by
  have hab := inB_true.1 ha
  have htb := tmB_true.1 ht
  have G := hide (rTag3 hk (show (0 : Int) ≤ 1 ∧ (1 : Int) < 999983 by omega) hab (show 0 ≤ now ∧ now < 999983 by omega))
  generalize tagOf k [1, a, now] = tg at G ⊢
  clear hk ha ht hab htb
  have hbl := h.q.1.lt
  obtain ⟨av, cv, rfl⟩ := qrow_form h.q.2.1
  have hzl : zs.length ≤ 900 := h.q.2.1.1
  have hFl := h.lt
  have JA := hide (fun W => rAnswer (wt := (zs.length : Int)) hsz hA W)
  have hA1 : Below w.heap.size w ((w.alloc (.cells #[.int .i64 a, .int .i64 t0, .int .i64 t1, .int .i64 t2, .int .i64 t3, .int .i64 u0, .int .i64 u1, .int .i64 u2, .int .i64 u3, .string s] 69)).alloc (.cells #[.int .i64 0, .int .i64 0, .int .i64 0, .int .i64 0, .int .i64 0, .int .i64 0, .int .i64 0, .bool false] 101)) := ((Below.refl _ _).alloc (Nat.le_refl _) _).alloc (by simp) _
  have hoH : ObjAt ((w.alloc (.cells #[.int .i64 a, .int .i64 t0, .int .i64 t1, .int .i64 t2, .int .i64 t3, .int .i64 u0, .int .i64 u1, .int .i64 u2, .int .i64 u3, .string s] 69)).alloc (.cells #[.int .i64 0, .int .i64 0, .int .i64 0, .int .i64 0, .int .i64 0, .int .i64 0, .int .i64 0, .bool false] 101)) w.heap.size 69 [.int .i64 a, .int .i64 t0, .int .i64 t1, .int .i64 t2, .int .i64 t3, .int .i64 u0, .int .i64 u1, .int .i64 u2, .int .i64 u3, .string s] := (ObjAt.new _ _ _).alloc _
  have hoR : ObjAt ((w.alloc (.cells #[.int .i64 a, .int .i64 t0, .int .i64 t1, .int .i64 t2, .int .i64 t3, .int .i64 u0, .int .i64 u1, .int .i64 u2, .int .i64 u3, .string s] 69)).alloc (.cells #[.int .i64 0, .int .i64 0, .int .i64 0, .int .i64 0, .int .i64 0, .int .i64 0, .int .i64 0, .bool false] 101)) (w.heap.size + 1) 101 [.int .i64 0, .int .i64 0, .int .i64 0, .int .i64 0, .int .i64 0, .int .i64 0, .int .i64 0, .bool false] := objNew (by simp)
  have hV1 := h.below hA1
  obtain ⟨W1, hW1⟩ : ∃ W1, W1 = ((w.alloc (.cells #[.int .i64 a, .int .i64 t0, .int .i64 t1, .int .i64 t2, .int .i64 t3, .int .i64 u0, .int .i64 u1, .int .i64 u2, .int .i64 u3, .string s] 69)).alloc (.cells #[.int .i64 0, .int .i64 0, .int .i64 0, .int .i64 0, .int .i64 0, .int .i64 0, .int .i64 0, .bool false] 101)) := ⟨_, rfl⟩
  have hz1 : W1.heap.size = w.heap.size + 2 := by rw [hW1]; simp
  rw [← hW1] at hA1 hoH hoR hV1
  have HOR := hide hoR
  have HOH := hide hoH
  have HV1 := hide hV1
  have HKS : Hid (∀ w' : World, Below W1.heap.size W1 w' → w'.cell? ⟨b, 0, none⟩ = some (.int .i64 e) ∧ w'.cell? ⟨b, 1, none⟩ = some (.int .i64 k) ∧ w'.cell? ⟨b, 2, none⟩ = some (.int .i64 o) ∧ w'.cell? ⟨b, 3, none⟩ = some (.int .i64 li) ∧ w'.cell? ⟨b, 4, none⟩ = some (.slice av zs.length cv) ∧ w'.cell? ⟨w.heap.size, 0, none⟩ = some (.int .i64 a) ∧ w'.cell? ⟨w.heap.size, 1, none⟩ = some (.int .i64 t0) ∧ w'.cell? ⟨w.heap.size, 2, none⟩ = some (.int .i64 t1) ∧ w'.cell? ⟨w.heap.size, 3, none⟩ = some (.int .i64 t2) ∧ w'.cell? ⟨w.heap.size, 4, none⟩ = some (.int .i64 t3) ∧ w'.cell? ⟨w.heap.size, 5, none⟩ = some (.int .i64 u0) ∧ w'.cell? ⟨w.heap.size, 6, none⟩ = some (.int .i64 u1) ∧ w'.cell? ⟨w.heap.size, 7, none⟩ = some (.int .i64 u2) ∧ w'.cell? ⟨w.heap.size, 8, none⟩ = some (.int .i64 u3) ∧ w'.cell? ⟨w.heap.size, 9, none⟩ = some (.string s)) := fun w' hB => ⟨(HV1.out.below hB).q.1.cell (i := 0) rfl, (HV1.out.below hB).q.1.cell (i := 1) rfl, (HV1.out.below hB).q.1.cell (i := 2) rfl, (HV1.out.below hB).q.1.cell (i := 3) rfl, (HV1.out.below hB).q.1.cell (i := 4) rfl, (HOH.out.below hB).cell (i := 0) rfl, (HOH.out.below hB).cell (i := 1) rfl, (HOH.out.below hB).cell (i := 2) rfl, (HOH.out.below hB).cell (i := 3) rfl, (HOH.out.below hB).cell (i := 4) rfl, (HOH.out.below hB).cell (i := 5) rfl, (HOH.out.below hB).cell (i := 6) rfl, (HOH.out.below hB).cell (i := 7) rfl, (HOH.out.below hB).cell (i := 8) rfl, (HOH.out.below hB).cell (i := 9) rfl⟩
  have HV0 := hide h
  clear h hoH hoR hV1 hA hsz
  go_enter Tryz.func39, Tryz.ntmps39
  go_upto_region 1 with (fail)
  rw [← hW1]
  clear hW1
  have hrr := Below.refl W1.heap.size W1
  obtain ⟨mm0, mm1, mm2, mm3, mm4, mm5, mm6, mm7, mm8, mm9, mm10, mm11, mm12, mm13, mm14⟩ := HKS.out _ hrr
  go_region_held3 (fun w' => w'.cell? ⟨b, 0, none⟩ = some (.int .i64 e) ∧ w'.cell? ⟨b, 1, none⟩ = some (.int .i64 k) ∧ w'.cell? ⟨b, 2, none⟩ = some (.int .i64 o) ∧ w'.cell? ⟨b, 3, none⟩ = some (.int .i64 li) ∧ w'.cell? ⟨b, 4, none⟩ = some (.slice av zs.length cv) ∧ w'.cell? ⟨w.heap.size, 0, none⟩ = some (.int .i64 a) ∧ w'.cell? ⟨w.heap.size, 1, none⟩ = some (.int .i64 t0) ∧ w'.cell? ⟨w.heap.size, 2, none⟩ = some (.int .i64 t1) ∧ w'.cell? ⟨w.heap.size, 3, none⟩ = some (.int .i64 t2) ∧ w'.cell? ⟨w.heap.size, 4, none⟩ = some (.int .i64 t3) ∧ w'.cell? ⟨w.heap.size, 5, none⟩ = some (.int .i64 u0) ∧ w'.cell? ⟨w.heap.size, 6, none⟩ = some (.int .i64 u1) ∧ w'.cell? ⟨w.heap.size, 7, none⟩ = some (.int .i64 u2) ∧ w'.cell? ⟨w.heap.size, 8, none⟩ = some (.int .i64 u3) ∧ w'.cell? ⟨w.heap.size, 9, none⟩ = some (.string s)) (first | exact HKS.out _ (by assumption) | (refine HKS.out _ ?_; go_grown) | go_keep)
    (first | (go_at_call 56; refine (JA.out _).mono ?_; rintro e6 w3 ⟨rfl, hb3⟩; have hw3 : Below W1.heap.size W1 w3 := Below.trans (by go_grown) (Below.mono hb3 (by first | omega | (simp; done) | (simp; omega))); have hs3 := hw3.size; obtain ⟨c3, d3⟩ := bcell hb3))
  have HB3 := hide (hA1.trans (hw3.mono (by omega)))
  have HV3 := hide (HV1.out.below hw3)
  have HR3 := hide (HOR.out.below hw3)
  have HH3 := hide (HOH.out.below hw3)
  clear hb3 hw3 c3 d3 hrr JA HV1 HOR HOH mm0 mm1 mm2 mm3 mm4 mm5 mm6 mm7 mm8 mm9 mm10 mm11 mm12 mm13 mm14
  have HKT : Hid (∀ w' : World, Below w3.heap.size w3 w' → w'.cell? ⟨b, 0, none⟩ = some (.int .i64 e) ∧ w'.cell? ⟨b, 1, none⟩ = some (.int .i64 k) ∧ w'.cell? ⟨w.heap.size, 0, none⟩ = some (.int .i64 a)) := fun w' hB => ⟨(HV3.out.below hB).q.1.cell (i := 0) rfl, (HV3.out.below hB).q.1.cell (i := 1) rfl, (HH3.out.below hB).cell (i := 0) rfl⟩
  have hrr := Below.refl w3.heap.size w3
  obtain ⟨k0, k1, k2⟩ := HKT.out _ hrr
  have hs9 : w3.heap.size ≤ w3.heap.size := Nat.le_refl _
  go_wp2_with fail
  go_region_held3 (fun w' => w'.cell? ⟨b, 0, none⟩ = some (.int .i64 e) ∧ w'.cell? ⟨b, 1, none⟩ = some (.int .i64 k) ∧ w'.cell? ⟨w.heap.size, 0, none⟩ = some (.int .i64 a)) (first | exact HKT.out _ (by assumption) | (refine HKT.out _ ?_; go_grown) | go_keep)
    (first | (go_at_call 17; refine (G.out _ _ ?_).mono ?_; (first | (with_reducible refine ObjAt.drew ?_; exact objNew (by simp)) | exact objNew (by simp) | exact ((ObjAt.new _ _ _).alloc _).drew); rintro e9 w9 ⟨rfl, rfl⟩))
  all_goals (clear k0 k1 k2 HKT HKS HV3 HH3 hrr hFl HV0)
  all_goals (first | (obtain ⟨W, hW⟩ : ∃ W, W = (((w3.alloc (.cells #[.int .i64 1, .int .i64 a, .int .i64 now] 3)).alloc (.cells #[.int .i64 e, .int .i64 a, .int .i64 now, .int .i64 tg] 65)).drew) := ⟨_, rfl⟩; have HOT : Hid (ObjAt W (w3.heap.size + 1) 65 [.int .i64 e, .int .i64 a, .int .i64 now, .int .i64 tg]) := (by rw [hW]; exact ObjAt.drew (objNew (by simp))); have HRW : Hid (ObjAt W (w.heap.size + 1) 101 [.int .i64 0, .int .i64 0, .int .i64 0, .int .i64 0, .int .i64 0, .int .i64 0, .int .i64 0, .bool false]) := (by rw [hW]; exact ((HR3.out.alloc _).alloc _).drew); have HBW : Hid (Below w.heap.size w W) := (by rw [hW]; exact ((HB3.out.alloc HB3.out.size _).alloc (by simp; have := HB3.out.size; omega) _).drew); rw [← hW]; clear hW; have r0 := HRW.out.cell (i := 0) rfl; have f0 := HRW.out.free 0; have r1 := HRW.out.cell (i := 1) rfl; have f1 := HRW.out.free 1; have r2 := HRW.out.cell (i := 2) rfl; have f2 := HRW.out.free 2; have r3 := HRW.out.cell (i := 3) rfl; have f3 := HRW.out.free 3; have r4 := HRW.out.cell (i := 4) rfl; have f4 := HRW.out.free 4; have r5 := HRW.out.cell (i := 5) rfl; have f5 := HRW.out.free 5; have r6 := HRW.out.cell (i := 6) rfl; have f6 := HRW.out.free 6; have r7 := HRW.out.cell (i := 7) rfl; have f7 := HRW.out.free 7; have q0 := HOT.out.cell (i := 0) rfl; have q1 := HOT.out.cell (i := 1) rfl; have q2 := HOT.out.cell (i := 2) rfl; have q3 := HOT.out.cell (i := 3) rfl; go_wp2; exact bodyPost_ret (v := .tuple #[.agg #[.int .i64 0, .int .i64 e, .int .i64 a, .int .i64 now, .int .i64 tg, .int .i64 0, .int .i64 0, .bool false], .int .i64 0]) (by simp [results, Tryz.results39, go_sem, *]) rfl ⟨rfl, bel_set8 HBW.out (Nat.le_succ _) _ _ _ _ _ _ _ _⟩) | (obtain ⟨W, hW⟩ : ∃ W, W = (((w3.alloc (.cells #[.int .i64 e, .int .i64 a, .int .i64 now, .int .i64 tg] 65)).alloc (.cells #[.int .i64 1, .int .i64 a, .int .i64 now] 3)).drew) := ⟨_, rfl⟩; have HOT : Hid (ObjAt W (w3.heap.size) 65 [.int .i64 e, .int .i64 a, .int .i64 now, .int .i64 tg]) := (by rw [hW]; exact ((ObjAt.new _ _ _).alloc _).drew); have HRW : Hid (ObjAt W (w.heap.size + 1) 101 [.int .i64 0, .int .i64 0, .int .i64 0, .int .i64 0, .int .i64 0, .int .i64 0, .int .i64 0, .bool false]) := (by rw [hW]; exact ((HR3.out.alloc _).alloc _).drew); have HBW : Hid (Below w.heap.size w W) := (by rw [hW]; exact ((HB3.out.alloc HB3.out.size _).alloc (by simp; have := HB3.out.size; omega) _).drew); rw [← hW]; clear hW; have r0 := HRW.out.cell (i := 0) rfl; have f0 := HRW.out.free 0; have r1 := HRW.out.cell (i := 1) rfl; have f1 := HRW.out.free 1; have r2 := HRW.out.cell (i := 2) rfl; have f2 := HRW.out.free 2; have r3 := HRW.out.cell (i := 3) rfl; have f3 := HRW.out.free 3; have r4 := HRW.out.cell (i := 4) rfl; have f4 := HRW.out.free 4; have r5 := HRW.out.cell (i := 5) rfl; have f5 := HRW.out.free 5; have r6 := HRW.out.cell (i := 6) rfl; have f6 := HRW.out.free 6; have r7 := HRW.out.cell (i := 7) rfl; have f7 := HRW.out.free 7; have q0 := HOT.out.cell (i := 0) rfl; have q1 := HOT.out.cell (i := 1) rfl; have q2 := HOT.out.cell (i := 2) rfl; have q3 := HOT.out.cell (i := 3) rfl; go_wp2; exact bodyPost_ret (v := .tuple #[.agg #[.int .i64 0, .int .i64 e, .int .i64 a, .int .i64 now, .int .i64 tg, .int .i64 0, .int .i64 0, .bool false], .int .i64 0]) (by simp [results, Tryz.results39, go_sem, *]) rfl ⟨rfl, bel_set8 HBW.out (Nat.le_succ _) _ _ _ _ _ _ _ _⟩))
end Go.Proofs.YtlnghfmcofmkjaaGreatDoor
