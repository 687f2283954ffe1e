/- server: Hello, where no early bytes are to be taken, by contracts. -/
import Derived.Test.YtlnghfmcofmkjaaGreatDoorWelcome
import Derived.Test.YtlnghfmcofmkjaaGreatDoorAnswer
import Derived.Test.YtlnghfmcofmkjaaGreatDoorTokenM
import Derived.BigQuiet
import Derived.Deep.QuietTactic
import Derived.Deep.Cut
namespace Go.Proofs.YtlnghfmcofmkjaaGreatDoor
open Go.RowKit

set_option maxRecDepth 100000 in
set_option maxHeartbeats 8000000 in
theorem sHello_err {a t0 t1 t2 t3 u0 u1 u2 u3 : Int} {s : ByteArray} {now : Int} {b : Nat} {e k o li : Int} {q bi bv : Nat} {cn : Int} {v : Value} {zs : List (Int × Int)} {n c : Int} {eb : Bool} (hsz : s.size ≤ 9223372036854775807) (hA : ansN e k o a t0 t1 t2 t3 u0 u1 u2 u3 s (zs.length : Int) now li = (n, eb, c)) (h0 : c ≠ 0) (w : World) (h : SQ w b e k o li q bi bv cn v zs) :
    Calls Tryz.prog 87 #[.pointer (some ⟨b, 0, none⟩), .agg #[.int .i64 a, .int .i64 t0, .int .i64 t1, .int .i64 t2, .int .i64 t3, .int .i64 u0, .int .i64 u1, .int .i64 u2, .int .i64 u3, .string s], .int .i64 now] w fun r w' => r = .returned (.tuple #[.agg #[.int .i64 0, .int .i64 0, .int .i64 0, .int .i64 0, .int .i64 0, .int .i64 0, .int .i64 0, .bool false], errV c]) ∧ Below w.heap.size w w' := by
  have tc1 : (c != 0) = true := bne_iff_ne.2 h0
  clear h0
  have hbl := h.obj.lt
  have hql := h.que.1.lt
  have hvl : ∀ g, v.ownBlock = some g → g < w.heap.size := fun g hg => h.que.2.1.lt g hg
  have JA := hide (fun W => judgeAnswer (wt := (zs.length : Int)) hsz hA W)
  have hA1 : Below w.heap.size w ((w.alloc (.cells #[.int .i64 a, .int .i64 t0, .int .i64 t1, .int .i64 t2, .int .i64 t3, .int .i64 u0, .int .i64 u1, .int .i64 u2, .int .i64 u3, .string s] 69)).alloc (.cells #[.int .i64 0, .int .i64 0, .int .i64 0, .int .i64 0, .int .i64 0, .int .i64 0, .int .i64 0, .bool false] 101)) := ((Below.refl _ _).alloc (Nat.le_refl _) _).alloc (by simp) _
  have hoH : ObjAt ((w.alloc (.cells #[.int .i64 a, .int .i64 t0, .int .i64 t1, .int .i64 t2, .int .i64 t3, .int .i64 u0, .int .i64 u1, .int .i64 u2, .int .i64 u3, .string s] 69)).alloc (.cells #[.int .i64 0, .int .i64 0, .int .i64 0, .int .i64 0, .int .i64 0, .int .i64 0, .int .i64 0, .bool false] 101)) w.heap.size 69 [.int .i64 a, .int .i64 t0, .int .i64 t1, .int .i64 t2, .int .i64 t3, .int .i64 u0, .int .i64 u1, .int .i64 u2, .int .i64 u3, .string s] := (ObjAt.new _ _ _).alloc _
  have hoR : ObjAt ((w.alloc (.cells #[.int .i64 a, .int .i64 t0, .int .i64 t1, .int .i64 t2, .int .i64 t3, .int .i64 u0, .int .i64 u1, .int .i64 u2, .int .i64 u3, .string s] 69)).alloc (.cells #[.int .i64 0, .int .i64 0, .int .i64 0, .int .i64 0, .int .i64 0, .int .i64 0, .int .i64 0, .bool false] 101)) (w.heap.size + 1) 101 [.int .i64 0, .int .i64 0, .int .i64 0, .int .i64 0, .int .i64 0, .int .i64 0, .int .i64 0, .bool false] := objNew (by simp)
  have hS1 := h.below hA1
  obtain ⟨W1, hW1⟩ : ∃ W1, W1 = ((w.alloc (.cells #[.int .i64 a, .int .i64 t0, .int .i64 t1, .int .i64 t2, .int .i64 t3, .int .i64 u0, .int .i64 u1, .int .i64 u2, .int .i64 u3, .string s] 69)).alloc (.cells #[.int .i64 0, .int .i64 0, .int .i64 0, .int .i64 0, .int .i64 0, .int .i64 0, .int .i64 0, .bool false] 101)) := ⟨_, rfl⟩
  have hz1 : W1.heap.size = w.heap.size + 2 := by rw [hW1]; simp
  rw [← hW1] at hA1 hoH hoR hS1
  have HOR := hide hoR
  have HOH := hide hoH
  have HS1 := hide hS1
  have HKS : Hid (∀ w' : World, Below W1.heap.size W1 w' → w'.cell? ⟨b, 0, none⟩ = some (.int .i64 e) ∧ w'.cell? ⟨b, 1, none⟩ = some (.int .i64 k) ∧ w'.cell? ⟨b, 2, none⟩ = some (.int .i64 o) ∧ w'.cell? ⟨b, 3, none⟩ = some (.int .i64 li) ∧ w'.cell? ⟨w.heap.size, 0, none⟩ = some (.int .i64 a) ∧ w'.cell? ⟨w.heap.size, 1, none⟩ = some (.int .i64 t0) ∧ w'.cell? ⟨w.heap.size, 2, none⟩ = some (.int .i64 t1) ∧ w'.cell? ⟨w.heap.size, 3, none⟩ = some (.int .i64 t2) ∧ w'.cell? ⟨w.heap.size, 4, none⟩ = some (.int .i64 t3) ∧ w'.cell? ⟨w.heap.size, 5, none⟩ = some (.int .i64 u0) ∧ w'.cell? ⟨w.heap.size, 6, none⟩ = some (.int .i64 u1) ∧ w'.cell? ⟨w.heap.size, 7, none⟩ = some (.int .i64 u2) ∧ w'.cell? ⟨w.heap.size, 8, none⟩ = some (.int .i64 u3) ∧ w'.cell? ⟨w.heap.size, 9, none⟩ = some (.string s)) := fun w' hB => ⟨(HS1.out.below hB).obj.cell (i := 0) rfl, (HS1.out.below hB).obj.cell (i := 1) rfl, (HS1.out.below hB).obj.cell (i := 2) rfl, (HS1.out.below hB).obj.cell (i := 3) rfl, (HOH.out.below hB).cell (i := 0) rfl, (HOH.out.below hB).cell (i := 1) rfl, (HOH.out.below hB).cell (i := 2) rfl, (HOH.out.below hB).cell (i := 3) rfl, (HOH.out.below hB).cell (i := 4) rfl, (HOH.out.below hB).cell (i := 5) rfl, (HOH.out.below hB).cell (i := 6) rfl, (HOH.out.below hB).cell (i := 7) rfl, (HOH.out.below hB).cell (i := 8) rfl, (HOH.out.below hB).cell (i := 9) rfl⟩
  clear h hoH hoR hS1 hA hsz
  go_enter Tryz.func87, Tryz.ntmps87
  go_upto_region 1 with (fail)
  rw [← hW1]
  clear hW1
  have hrr := Below.refl W1.heap.size W1
  obtain ⟨mm0, mm1, mm2, mm3, mm4, mm5, mm6, mm7, mm8, mm9, mm10, mm11, mm12, mm13⟩ := HKS.out _ hrr
  go_region_held3 (fun w' => w'.cell? ⟨b, 0, none⟩ = some (.int .i64 e) ∧ w'.cell? ⟨b, 1, none⟩ = some (.int .i64 k) ∧ w'.cell? ⟨b, 2, none⟩ = some (.int .i64 o) ∧ w'.cell? ⟨b, 3, none⟩ = some (.int .i64 li) ∧ w'.cell? ⟨w.heap.size, 0, none⟩ = some (.int .i64 a) ∧ w'.cell? ⟨w.heap.size, 1, none⟩ = some (.int .i64 t0) ∧ w'.cell? ⟨w.heap.size, 2, none⟩ = some (.int .i64 t1) ∧ w'.cell? ⟨w.heap.size, 3, none⟩ = some (.int .i64 t2) ∧ w'.cell? ⟨w.heap.size, 4, none⟩ = some (.int .i64 t3) ∧ w'.cell? ⟨w.heap.size, 5, none⟩ = some (.int .i64 u0) ∧ w'.cell? ⟨w.heap.size, 6, none⟩ = some (.int .i64 u1) ∧ w'.cell? ⟨w.heap.size, 7, none⟩ = some (.int .i64 u2) ∧ w'.cell? ⟨w.heap.size, 8, none⟩ = some (.int .i64 u3) ∧ w'.cell? ⟨w.heap.size, 9, none⟩ = some (.string s)) (first | exact HKS.out _ (by assumption) | (refine HKS.out _ ?_; go_grown) | go_keep)
    (first
      | (go_at_call 69; refine (sWaiting _ (HS1.out.below (by go_grown : Below W1.heap.size W1 _))).mono ?_; rintro e5 w2 ⟨rfl, hb2⟩; have hw2 : Below W1.heap.size W1 w2 := Below.trans (by go_grown) (Below.mono hb2 (by first | omega | (simp; done) | (simp; omega))); have hs2 := hw2.size; obtain ⟨c2, d2⟩ := bcell hb2)
      | (go_at_call 105; refine (JA.out _).mono ?_; rintro e6 w3 ⟨rfl, hb3⟩; have hw3 : Below W1.heap.size W1 w3 := Below.trans (Below.trans hw2 (Below.mono (by go_grown : Below w2.heap.size w2 _) hs2)) (Below.mono hb3 (by first | omega | (simp; done) | (simp; omega))); have hs3 := hw3.size; obtain ⟨c3, d3⟩ := bcell hb3))
  have HB3 := hide (hA1.trans (hw3.mono (by omega)))
  have HS3 := hide (HS1.out.below hw3)
  have HR3 := hide (HOR.out.below hw3)
  have HH3 := hide (HOH.out.below hw3)
  clear hb2 hb3 hw2 c2 c3 d2 d3 hrr JA HS1 HOR HOH mm0 mm1 mm2 mm3 mm4 mm5 mm6 mm7 mm8 mm9 mm10 mm11 mm12 mm13 hs2
  clear HS3 HH3 HKS
  have r0 := HR3.out.cell (i := 0) rfl
  have f0 := HR3.out.free 0
  have r1 := HR3.out.cell (i := 1) rfl
  have f1 := HR3.out.free 1
  have r2 := HR3.out.cell (i := 2) rfl
  have f2 := HR3.out.free 2
  have r3 := HR3.out.cell (i := 3) rfl
  have f3 := HR3.out.free 3
  have r4 := HR3.out.cell (i := 4) rfl
  have f4 := HR3.out.free 4
  have r5 := HR3.out.cell (i := 5) rfl
  have f5 := HR3.out.free 5
  have r6 := HR3.out.cell (i := 6) rfl
  have f6 := HR3.out.free 6
  have r7 := HR3.out.cell (i := 7) rfl
  have f7 := HR3.out.free 7
  go_wp2
  exact bodyPost_ret (v := .tuple #[.agg #[.int .i64 0, .int .i64 0, .int .i64 0, .int .i64 0, .int .i64 0, .int .i64 0, .int .i64 0, .bool false], errV c]) (by simp [results, Tryz.results87, go_sem, *]) rfl ⟨rfl, bel_set8 HB3.out (Nat.le_succ _) _ _ _ _ _ _ _ _⟩
set_option maxRecDepth 100000 in
set_option maxHeartbeats 8000000 in
theorem sHello_busy {a t0 t1 t2 t3 u0 u1 u2 u3 : Int} {s : ByteArray} {now : Int} {b : Nat} {e k o li : Int} {q bi bv : Nat} {cn : Int} {v : Value} {zs : List (Int × Int)} {eb : Bool} (hsz : s.size ≤ 9223372036854775807) (hA : ansN e k o a t0 t1 t2 t3 u0 u1 u2 u3 s (zs.length : Int) now li = (2, eb, 0)) (w : World) (h : SQ w b e k o li q bi bv cn v zs) :
    Calls Tryz.prog 87 #[.pointer (some ⟨b, 0, none⟩), .agg #[.int .i64 a, .int .i64 t0, .int .i64 t1, .int .i64 t2, .int .i64 t3, .int .i64 u0, .int .i64 u1, .int .i64 u2, .int .i64 u3, .string s], .int .i64 now] w fun r w' => r = .returned (.tuple #[.agg #[.int .i64 2, .int .i64 0, .int .i64 0, .int .i64 0, .int .i64 0, .int .i64 0, .int .i64 0, .bool false], .nilIface]) ∧ Below w.heap.size w w' := by
  have hz : zs.length ≤ 900 := h.que.2.1.1
  have hbl := h.obj.lt
  have hql := h.que.1.lt
  have hvl : ∀ g, v.ownBlock = some g → g < w.heap.size := fun g hg => h.que.2.1.lt g hg
  have JA := hide (fun W => judgeAnswer (wt := (zs.length : Int)) hsz hA W)
  have hA1 : Below w.heap.size w ((w.alloc (.cells #[.int .i64 a, .int .i64 t0, .int .i64 t1, .int .i64 t2, .int .i64 t3, .int .i64 u0, .int .i64 u1, .int .i64 u2, .int .i64 u3, .string s] 69)).alloc (.cells #[.int .i64 0, .int .i64 0, .int .i64 0, .int .i64 0, .int .i64 0, .int .i64 0, .int .i64 0, .bool false] 101)) := ((Below.refl _ _).alloc (Nat.le_refl _) _).alloc (by simp) _
  have hoH : ObjAt ((w.alloc (.cells #[.int .i64 a, .int .i64 t0, .int .i64 t1, .int .i64 t2, .int .i64 t3, .int .i64 u0, .int .i64 u1, .int .i64 u2, .int .i64 u3, .string s] 69)).alloc (.cells #[.int .i64 0, .int .i64 0, .int .i64 0, .int .i64 0, .int .i64 0, .int .i64 0, .int .i64 0, .bool false] 101)) w.heap.size 69 [.int .i64 a, .int .i64 t0, .int .i64 t1, .int .i64 t2, .int .i64 t3, .int .i64 u0, .int .i64 u1, .int .i64 u2, .int .i64 u3, .string s] := (ObjAt.new _ _ _).alloc _
  have hoR : ObjAt ((w.alloc (.cells #[.int .i64 a, .int .i64 t0, .int .i64 t1, .int .i64 t2, .int .i64 t3, .int .i64 u0, .int .i64 u1, .int .i64 u2, .int .i64 u3, .string s] 69)).alloc (.cells #[.int .i64 0, .int .i64 0, .int .i64 0, .int .i64 0, .int .i64 0, .int .i64 0, .int .i64 0, .bool false] 101)) (w.heap.size + 1) 101 [.int .i64 0, .int .i64 0, .int .i64 0, .int .i64 0, .int .i64 0, .int .i64 0, .int .i64 0, .bool false] := objNew (by simp)
  have hS1 := h.below hA1
  obtain ⟨W1, hW1⟩ : ∃ W1, W1 = ((w.alloc (.cells #[.int .i64 a, .int .i64 t0, .int .i64 t1, .int .i64 t2, .int .i64 t3, .int .i64 u0, .int .i64 u1, .int .i64 u2, .int .i64 u3, .string s] 69)).alloc (.cells #[.int .i64 0, .int .i64 0, .int .i64 0, .int .i64 0, .int .i64 0, .int .i64 0, .int .i64 0, .bool false] 101)) := ⟨_, rfl⟩
  have hz1 : W1.heap.size = w.heap.size + 2 := by rw [hW1]; simp
  rw [← hW1] at hA1 hoH hoR hS1
  have HOR := hide hoR
  have HOH := hide hoH
  have HS1 := hide hS1
  have HKS : Hid (∀ w' : World, Below W1.heap.size W1 w' → w'.cell? ⟨b, 0, none⟩ = some (.int .i64 e) ∧ w'.cell? ⟨b, 1, none⟩ = some (.int .i64 k) ∧ w'.cell? ⟨b, 2, none⟩ = some (.int .i64 o) ∧ w'.cell? ⟨b, 3, none⟩ = some (.int .i64 li) ∧ w'.cell? ⟨w.heap.size, 0, none⟩ = some (.int .i64 a) ∧ w'.cell? ⟨w.heap.size, 1, none⟩ = some (.int .i64 t0) ∧ w'.cell? ⟨w.heap.size, 2, none⟩ = some (.int .i64 t1) ∧ w'.cell? ⟨w.heap.size, 3, none⟩ = some (.int .i64 t2) ∧ w'.cell? ⟨w.heap.size, 4, none⟩ = some (.int .i64 t3) ∧ w'.cell? ⟨w.heap.size, 5, none⟩ = some (.int .i64 u0) ∧ w'.cell? ⟨w.heap.size, 6, none⟩ = some (.int .i64 u1) ∧ w'.cell? ⟨w.heap.size, 7, none⟩ = some (.int .i64 u2) ∧ w'.cell? ⟨w.heap.size, 8, none⟩ = some (.int .i64 u3) ∧ w'.cell? ⟨w.heap.size, 9, none⟩ = some (.string s)) := fun w' hB => ⟨(HS1.out.below hB).obj.cell (i := 0) rfl, (HS1.out.below hB).obj.cell (i := 1) rfl, (HS1.out.below hB).obj.cell (i := 2) rfl, (HS1.out.below hB).obj.cell (i := 3) rfl, (HOH.out.below hB).cell (i := 0) rfl, (HOH.out.below hB).cell (i := 1) rfl, (HOH.out.below hB).cell (i := 2) rfl, (HOH.out.below hB).cell (i := 3) rfl, (HOH.out.below hB).cell (i := 4) rfl, (HOH.out.below hB).cell (i := 5) rfl, (HOH.out.below hB).cell (i := 6) rfl, (HOH.out.below hB).cell (i := 7) rfl, (HOH.out.below hB).cell (i := 8) rfl, (HOH.out.below hB).cell (i := 9) rfl⟩
  clear h hoH hoR hS1 hA hsz
  go_enter Tryz.func87, Tryz.ntmps87
  go_upto_region 1 with (fail)
  rw [← hW1]
  clear hW1
  have hrr := Below.refl W1.heap.size W1
  obtain ⟨mm0, mm1, mm2, mm3, mm4, mm5, mm6, mm7, mm8, mm9, mm10, mm11, mm12, mm13⟩ := HKS.out _ hrr
  go_region_held3 (fun w' => w'.cell? ⟨b, 0, none⟩ = some (.int .i64 e) ∧ w'.cell? ⟨b, 1, none⟩ = some (.int .i64 k) ∧ w'.cell? ⟨b, 2, none⟩ = some (.int .i64 o) ∧ w'.cell? ⟨b, 3, none⟩ = some (.int .i64 li) ∧ w'.cell? ⟨w.heap.size, 0, none⟩ = some (.int .i64 a) ∧ w'.cell? ⟨w.heap.size, 1, none⟩ = some (.int .i64 t0) ∧ w'.cell? ⟨w.heap.size, 2, none⟩ = some (.int .i64 t1) ∧ w'.cell? ⟨w.heap.size, 3, none⟩ = some (.int .i64 t2) ∧ w'.cell? ⟨w.heap.size, 4, none⟩ = some (.int .i64 t3) ∧ w'.cell? ⟨w.heap.size, 5, none⟩ = some (.int .i64 u0) ∧ w'.cell? ⟨w.heap.size, 6, none⟩ = some (.int .i64 u1) ∧ w'.cell? ⟨w.heap.size, 7, none⟩ = some (.int .i64 u2) ∧ w'.cell? ⟨w.heap.size, 8, none⟩ = some (.int .i64 u3) ∧ w'.cell? ⟨w.heap.size, 9, none⟩ = some (.string s)) (first | exact HKS.out _ (by assumption) | (refine HKS.out _ ?_; go_grown) | go_keep)
    (first
      | (go_at_call 69; refine (sWaiting _ (HS1.out.below (by go_grown : Below W1.heap.size W1 _))).mono ?_; rintro e5 w2 ⟨rfl, hb2⟩; have hw2 : Below W1.heap.size W1 w2 := Below.trans (by go_grown) (Below.mono hb2 (by first | omega | (simp; done) | (simp; omega))); have hs2 := hw2.size; obtain ⟨c2, d2⟩ := bcell hb2)
      | (go_at_call 105; refine (JA.out _).mono ?_; rintro e6 w3 ⟨rfl, hb3⟩; have hw3 : Below W1.heap.size W1 w3 := Below.trans (Below.trans hw2 (Below.mono (by go_grown : Below w2.heap.size w2 _) hs2)) (Below.mono hb3 (by first | omega | (simp; done) | (simp; omega))); have hs3 := hw3.size; obtain ⟨c3, d3⟩ := bcell hb3))
  have HB3 := hide (hA1.trans (hw3.mono (by omega)))
  have HS3 := hide (HS1.out.below hw3)
  have HR3 := hide (HOR.out.below hw3)
  have HH3 := hide (HOH.out.below hw3)
  clear hb2 hb3 hw2 c2 c3 d2 d3 hrr JA HS1 HOR HOH mm0 mm1 mm2 mm3 mm4 mm5 mm6 mm7 mm8 mm9 mm10 mm11 mm12 mm13 hs2
  clear HS3 HH3 HKS
  have r0 := HR3.out.cell (i := 0) rfl
  have f0 := HR3.out.free 0
  have r1 := HR3.out.cell (i := 1) rfl
  have f1 := HR3.out.free 1
  have r2 := HR3.out.cell (i := 2) rfl
  have f2 := HR3.out.free 2
  have r3 := HR3.out.cell (i := 3) rfl
  have f3 := HR3.out.free 3
  have r4 := HR3.out.cell (i := 4) rfl
  have f4 := HR3.out.free 4
  have r5 := HR3.out.cell (i := 5) rfl
  have f5 := HR3.out.free 5
  have r6 := HR3.out.cell (i := 6) rfl
  have f6 := HR3.out.free 6
  have r7 := HR3.out.cell (i := 7) rfl
  have f7 := HR3.out.free 7
  go_wp2
  exact bodyPost_ret (v := .tuple #[.agg #[.int .i64 2, .int .i64 0, .int .i64 0, .int .i64 0, .int .i64 0, .int .i64 0, .int .i64 0, .bool false], .nilIface]) (by simp [results, Tryz.results87, go_sem, *]) rfl ⟨rfl, bel_set8 HB3.out (Nat.le_succ _) _ _ _ _ _ _ _ _⟩
set_option maxRecDepth 100000 in
set_option maxHeartbeats 8000000 in
theorem sHello_wbad {a t0 t1 t2 t3 u0 u1 u2 u3 : Int} {s : ByteArray} {now : Int} {b : Nat} {e k o li : Int} {q bi bv : Nat} {cn : Int} {v : Value} {zs : List (Int × Int)} {c : Int} (hsz : s.size ≤ 9223372036854775807) (hA : ansN e k o a t0 t1 t2 t3 u0 u1 u2 u3 s (zs.length : Int) now li = (1, false, 0)) (hc : offE zs 0 cn = c) (h0 : c ≠ 0) (h8 : zs.length ≤ 8) (h4 : cn ≠ 4096) (w : World) (h : SQ w b e k o li q bi bv cn v zs) :
    Calls Tryz.prog 87 #[.pointer (some ⟨b, 0, none⟩), .agg #[.int .i64 a, .int .i64 t0, .int .i64 t1, .int .i64 t2, .int .i64 t3, .int .i64 u0, .int .i64 u1, .int .i64 u2, .int .i64 u3, .string s], .int .i64 now] w fun r w' => r = .returned (.tuple #[.agg #[.int .i64 0, .int .i64 0, .int .i64 0, .int .i64 0, .int .i64 0, .int .i64 0, .int .i64 0, .bool false], errV c]) ∧ Below w.heap.size w w' := by
  have CW := hide (fun W (h : SQ W b e k o li q bi bv cn v zs) => sWel_bad (a := a) (t0 := t0) (t1 := t1) (t2 := t2) (t3 := t3) (u0 := u0) (u1 := u1) (u2 := u2) (u3 := u3) (s := s) (now := now) hc h0 h8 h4 W h)
  clear hc h0 h8 h4
  have hbl := h.obj.lt
  have hql := h.que.1.lt
  have hvl : ∀ g, v.ownBlock = some g → g < w.heap.size := fun g hg => h.que.2.1.lt g hg
  have JA := hide (fun W => judgeAnswer (wt := (zs.length : Int)) hsz hA W)
  have hA1 : Below w.heap.size w ((w.alloc (.cells #[.int .i64 a, .int .i64 t0, .int .i64 t1, .int .i64 t2, .int .i64 t3, .int .i64 u0, .int .i64 u1, .int .i64 u2, .int .i64 u3, .string s] 69)).alloc (.cells #[.int .i64 0, .int .i64 0, .int .i64 0, .int .i64 0, .int .i64 0, .int .i64 0, .int .i64 0, .bool false] 101)) := ((Below.refl _ _).alloc (Nat.le_refl _) _).alloc (by simp) _
  have hoH : ObjAt ((w.alloc (.cells #[.int .i64 a, .int .i64 t0, .int .i64 t1, .int .i64 t2, .int .i64 t3, .int .i64 u0, .int .i64 u1, .int .i64 u2, .int .i64 u3, .string s] 69)).alloc (.cells #[.int .i64 0, .int .i64 0, .int .i64 0, .int .i64 0, .int .i64 0, .int .i64 0, .int .i64 0, .bool false] 101)) w.heap.size 69 [.int .i64 a, .int .i64 t0, .int .i64 t1, .int .i64 t2, .int .i64 t3, .int .i64 u0, .int .i64 u1, .int .i64 u2, .int .i64 u3, .string s] := (ObjAt.new _ _ _).alloc _
  have hoR : ObjAt ((w.alloc (.cells #[.int .i64 a, .int .i64 t0, .int .i64 t1, .int .i64 t2, .int .i64 t3, .int .i64 u0, .int .i64 u1, .int .i64 u2, .int .i64 u3, .string s] 69)).alloc (.cells #[.int .i64 0, .int .i64 0, .int .i64 0, .int .i64 0, .int .i64 0, .int .i64 0, .int .i64 0, .bool false] 101)) (w.heap.size + 1) 101 [.int .i64 0, .int .i64 0, .int .i64 0, .int .i64 0, .int .i64 0, .int .i64 0, .int .i64 0, .bool false] := objNew (by simp)
  have hS1 := h.below hA1
  obtain ⟨W1, hW1⟩ : ∃ W1, W1 = ((w.alloc (.cells #[.int .i64 a, .int .i64 t0, .int .i64 t1, .int .i64 t2, .int .i64 t3, .int .i64 u0, .int .i64 u1, .int .i64 u2, .int .i64 u3, .string s] 69)).alloc (.cells #[.int .i64 0, .int .i64 0, .int .i64 0, .int .i64 0, .int .i64 0, .int .i64 0, .int .i64 0, .bool false] 101)) := ⟨_, rfl⟩
  have hz1 : W1.heap.size = w.heap.size + 2 := by rw [hW1]; simp
  rw [← hW1] at hA1 hoH hoR hS1
  have HOR := hide hoR
  have HOH := hide hoH
  have HS1 := hide hS1
  have HKS : Hid (∀ w' : World, Below W1.heap.size W1 w' → w'.cell? ⟨b, 0, none⟩ = some (.int .i64 e) ∧ w'.cell? ⟨b, 1, none⟩ = some (.int .i64 k) ∧ w'.cell? ⟨b, 2, none⟩ = some (.int .i64 o) ∧ w'.cell? ⟨b, 3, none⟩ = some (.int .i64 li) ∧ w'.cell? ⟨w.heap.size, 0, none⟩ = some (.int .i64 a) ∧ w'.cell? ⟨w.heap.size, 1, none⟩ = some (.int .i64 t0) ∧ w'.cell? ⟨w.heap.size, 2, none⟩ = some (.int .i64 t1) ∧ w'.cell? ⟨w.heap.size, 3, none⟩ = some (.int .i64 t2) ∧ w'.cell? ⟨w.heap.size, 4, none⟩ = some (.int .i64 t3) ∧ w'.cell? ⟨w.heap.size, 5, none⟩ = some (.int .i64 u0) ∧ w'.cell? ⟨w.heap.size, 6, none⟩ = some (.int .i64 u1) ∧ w'.cell? ⟨w.heap.size, 7, none⟩ = some (.int .i64 u2) ∧ w'.cell? ⟨w.heap.size, 8, none⟩ = some (.int .i64 u3) ∧ w'.cell? ⟨w.heap.size, 9, none⟩ = some (.string s)) := fun w' hB => ⟨(HS1.out.below hB).obj.cell (i := 0) rfl, (HS1.out.below hB).obj.cell (i := 1) rfl, (HS1.out.below hB).obj.cell (i := 2) rfl, (HS1.out.below hB).obj.cell (i := 3) rfl, (HOH.out.below hB).cell (i := 0) rfl, (HOH.out.below hB).cell (i := 1) rfl, (HOH.out.below hB).cell (i := 2) rfl, (HOH.out.below hB).cell (i := 3) rfl, (HOH.out.below hB).cell (i := 4) rfl, (HOH.out.below hB).cell (i := 5) rfl, (HOH.out.below hB).cell (i := 6) rfl, (HOH.out.below hB).cell (i := 7) rfl, (HOH.out.below hB).cell (i := 8) rfl, (HOH.out.below hB).cell (i := 9) rfl⟩
  clear h hoH hoR hS1 hA hsz
  go_enter Tryz.func87, Tryz.ntmps87
  go_upto_region 1 with (fail)
  rw [← hW1]
  clear hW1
  have hrr := Below.refl W1.heap.size W1
  obtain ⟨mm0, mm1, mm2, mm3, mm4, mm5, mm6, mm7, mm8, mm9, mm10, mm11, mm12, mm13⟩ := HKS.out _ hrr
  go_region_held3 (fun w' => w'.cell? ⟨b, 0, none⟩ = some (.int .i64 e) ∧ w'.cell? ⟨b, 1, none⟩ = some (.int .i64 k) ∧ w'.cell? ⟨b, 2, none⟩ = some (.int .i64 o) ∧ w'.cell? ⟨b, 3, none⟩ = some (.int .i64 li) ∧ w'.cell? ⟨w.heap.size, 0, none⟩ = some (.int .i64 a) ∧ w'.cell? ⟨w.heap.size, 1, none⟩ = some (.int .i64 t0) ∧ w'.cell? ⟨w.heap.size, 2, none⟩ = some (.int .i64 t1) ∧ w'.cell? ⟨w.heap.size, 3, none⟩ = some (.int .i64 t2) ∧ w'.cell? ⟨w.heap.size, 4, none⟩ = some (.int .i64 t3) ∧ w'.cell? ⟨w.heap.size, 5, none⟩ = some (.int .i64 u0) ∧ w'.cell? ⟨w.heap.size, 6, none⟩ = some (.int .i64 u1) ∧ w'.cell? ⟨w.heap.size, 7, none⟩ = some (.int .i64 u2) ∧ w'.cell? ⟨w.heap.size, 8, none⟩ = some (.int .i64 u3) ∧ w'.cell? ⟨w.heap.size, 9, none⟩ = some (.string s)) (first | exact HKS.out _ (by assumption) | (refine HKS.out _ ?_; go_grown) | go_keep)
    (first
      | (go_at_call 69; refine (sWaiting _ (HS1.out.below (by go_grown : Below W1.heap.size W1 _))).mono ?_; rintro e5 w2 ⟨rfl, hb2⟩; have hw2 : Below W1.heap.size W1 w2 := Below.trans (by go_grown) (Below.mono hb2 (by first | omega | (simp; done) | (simp; omega))); have hs2 := hw2.size; obtain ⟨c2, d2⟩ := bcell hb2)
      | (go_at_call 105; refine (JA.out _).mono ?_; rintro e6 w3 ⟨rfl, hb3⟩; have hw3 : Below W1.heap.size W1 w3 := Below.trans (Below.trans hw2 (Below.mono (by go_grown : Below w2.heap.size w2 _) hs2)) (Below.mono hb3 (by first | omega | (simp; done) | (simp; omega))); have hs3 := hw3.size; obtain ⟨c3, d3⟩ := bcell hb3))
  have HB3 := hide (hA1.trans (hw3.mono (by omega)))
  have HS3 := hide (HS1.out.below hw3)
  have HR3 := hide (HOR.out.below hw3)
  have HH3 := hide (HOH.out.below hw3)
  clear hb2 hb3 hw2 c2 c3 d2 d3 hrr JA HS1 HOR HOH mm0 mm1 mm2 mm3 mm4 mm5 mm6 mm7 mm8 mm9 mm10 mm11 mm12 mm13 hs2
  have g0 := HH3.out.cell (i := 0) rfl
  have g1 := HH3.out.cell (i := 1) rfl
  have g2 := HH3.out.cell (i := 2) rfl
  have g3 := HH3.out.cell (i := 3) rfl
  have g4 := HH3.out.cell (i := 4) rfl
  have g5 := HH3.out.cell (i := 5) rfl
  have g6 := HH3.out.cell (i := 6) rfl
  have g7 := HH3.out.cell (i := 7) rfl
  have g8 := HH3.out.cell (i := 8) rfl
  have g9 := HH3.out.cell (i := 9) rfl
  clear HKS
  go_wp2_with fail
  refine (CW.out _ HS3.out).mono ?_
  rintro r w4 ⟨rfl, hb4⟩
  have HB4 := hide (HB3.out.trans (hb4.mono HB3.out.size))
  have HR4 := hide (HR3.out.below hb4)
  clear hb4 CW HS3 HR3 HB3 HH3 g0 g1 g2 g3 g4 g5 g6 g7 g8 g9
  have r0 := HR4.out.cell (i := 0) rfl
  have f0 := HR4.out.free 0
  have r1 := HR4.out.cell (i := 1) rfl
  have f1 := HR4.out.free 1
  have r2 := HR4.out.cell (i := 2) rfl
  have f2 := HR4.out.free 2
  have r3 := HR4.out.cell (i := 3) rfl
  have f3 := HR4.out.free 3
  have r4 := HR4.out.cell (i := 4) rfl
  have f4 := HR4.out.free 4
  have r5 := HR4.out.cell (i := 5) rfl
  have f5 := HR4.out.free 5
  have r6 := HR4.out.cell (i := 6) rfl
  have f6 := HR4.out.free 6
  have r7 := HR4.out.cell (i := 7) rfl
  have f7 := HR4.out.free 7
  go_wp2
  exact bodyPost_ret (v := .tuple #[.agg #[.int .i64 0, .int .i64 0, .int .i64 0, .int .i64 0, .int .i64 0, .int .i64 0, .int .i64 0, .bool false], errV c]) (by simp [results, Tryz.results87, go_sem, *]) rfl ⟨rfl, bel_set8 HB4.out (Nat.le_succ _) _ _ _ _ _ _ _ _⟩
set_option maxRecDepth 100000 in
set_option maxHeartbeats 8000000 in
theorem sHello_wok {a t0 t1 t2 t3 u0 u1 u2 u3 : Int} {s : ByteArray} {now : Int} {b : Nat} {e k o li : Int} {q bi bv : Nat} {cn : Int} {v : Value} {zs : List (Int × Int)} {ns : List (Int × Int)} (hsz : s.size ≤ 9223372036854775807) (hA : ansN e k o a t0 t1 t2 t3 u0 u1 u2 u3 s (zs.length : Int) now li = (1, false, 0)) (hns : zs ++ [(0, cn)] = ns) (hc : offE zs 0 cn = 0) (hcn : 0 ≤ cn ∧ cn < 4096) (w : World) (h : SQ w b e k o li q bi bv cn v zs) :
    Calls Tryz.prog 87 #[.pointer (some ⟨b, 0, none⟩), .agg #[.int .i64 a, .int .i64 t0, .int .i64 t1, .int .i64 t2, .int .i64 t3, .int .i64 u0, .int .i64 u1, .int .i64 u2, .int .i64 u3, .string s], .int .i64 now] w fun r w' => r = .returned (.tuple #[.agg #[.int .i64 1, .int .i64 0, .int .i64 0, .int .i64 0, .int .i64 0, .int .i64 0, .int .i64 cn, .bool false], .nilIface]) ∧ WelPost w w' b e k o li q bi bv (cn + 1) v ns := by
  have CW := hide (fun W (h : SQ W b e k o li q bi bv cn v zs) => sWel_ok (a := a) (t0 := t0) (t1 := t1) (t2 := t2) (t3 := t3) (u0 := u0) (u1 := u1) (u2 := u2) (u3 := u3) (s := s) (now := now) hns hc hcn W h)
  clear hns hc hcn
  have hbl := h.obj.lt
  have hql := h.que.1.lt
  have hvl : ∀ g, v.ownBlock = some g → g < w.heap.size := fun g hg => h.que.2.1.lt g hg
  have JA := hide (fun W => judgeAnswer (wt := (zs.length : Int)) hsz hA W)
  have hA1 : Below w.heap.size w ((w.alloc (.cells #[.int .i64 a, .int .i64 t0, .int .i64 t1, .int .i64 t2, .int .i64 t3, .int .i64 u0, .int .i64 u1, .int .i64 u2, .int .i64 u3, .string s] 69)).alloc (.cells #[.int .i64 0, .int .i64 0, .int .i64 0, .int .i64 0, .int .i64 0, .int .i64 0, .int .i64 0, .bool false] 101)) := ((Below.refl _ _).alloc (Nat.le_refl _) _).alloc (by simp) _
  have hoH : ObjAt ((w.alloc (.cells #[.int .i64 a, .int .i64 t0, .int .i64 t1, .int .i64 t2, .int .i64 t3, .int .i64 u0, .int .i64 u1, .int .i64 u2, .int .i64 u3, .string s] 69)).alloc (.cells #[.int .i64 0, .int .i64 0, .int .i64 0, .int .i64 0, .int .i64 0, .int .i64 0, .int .i64 0, .bool false] 101)) w.heap.size 69 [.int .i64 a, .int .i64 t0, .int .i64 t1, .int .i64 t2, .int .i64 t3, .int .i64 u0, .int .i64 u1, .int .i64 u2, .int .i64 u3, .string s] := (ObjAt.new _ _ _).alloc _
  have hoR : ObjAt ((w.alloc (.cells #[.int .i64 a, .int .i64 t0, .int .i64 t1, .int .i64 t2, .int .i64 t3, .int .i64 u0, .int .i64 u1, .int .i64 u2, .int .i64 u3, .string s] 69)).alloc (.cells #[.int .i64 0, .int .i64 0, .int .i64 0, .int .i64 0, .int .i64 0, .int .i64 0, .int .i64 0, .bool false] 101)) (w.heap.size + 1) 101 [.int .i64 0, .int .i64 0, .int .i64 0, .int .i64 0, .int .i64 0, .int .i64 0, .int .i64 0, .bool false] := objNew (by simp)
  have hS1 := h.below hA1
  obtain ⟨W1, hW1⟩ : ∃ W1, W1 = ((w.alloc (.cells #[.int .i64 a, .int .i64 t0, .int .i64 t1, .int .i64 t2, .int .i64 t3, .int .i64 u0, .int .i64 u1, .int .i64 u2, .int .i64 u3, .string s] 69)).alloc (.cells #[.int .i64 0, .int .i64 0, .int .i64 0, .int .i64 0, .int .i64 0, .int .i64 0, .int .i64 0, .bool false] 101)) := ⟨_, rfl⟩
  have hz1 : W1.heap.size = w.heap.size + 2 := by rw [hW1]; simp
  rw [← hW1] at hA1 hoH hoR hS1
  have HOR := hide hoR
  have HOH := hide hoH
  have HS1 := hide hS1
  have HKS : Hid (∀ w' : World, Below W1.heap.size W1 w' → w'.cell? ⟨b, 0, none⟩ = some (.int .i64 e) ∧ w'.cell? ⟨b, 1, none⟩ = some (.int .i64 k) ∧ w'.cell? ⟨b, 2, none⟩ = some (.int .i64 o) ∧ w'.cell? ⟨b, 3, none⟩ = some (.int .i64 li) ∧ w'.cell? ⟨w.heap.size, 0, none⟩ = some (.int .i64 a) ∧ w'.cell? ⟨w.heap.size, 1, none⟩ = some (.int .i64 t0) ∧ w'.cell? ⟨w.heap.size, 2, none⟩ = some (.int .i64 t1) ∧ w'.cell? ⟨w.heap.size, 3, none⟩ = some (.int .i64 t2) ∧ w'.cell? ⟨w.heap.size, 4, none⟩ = some (.int .i64 t3) ∧ w'.cell? ⟨w.heap.size, 5, none⟩ = some (.int .i64 u0) ∧ w'.cell? ⟨w.heap.size, 6, none⟩ = some (.int .i64 u1) ∧ w'.cell? ⟨w.heap.size, 7, none⟩ = some (.int .i64 u2) ∧ w'.cell? ⟨w.heap.size, 8, none⟩ = some (.int .i64 u3) ∧ w'.cell? ⟨w.heap.size, 9, none⟩ = some (.string s)) := fun w' hB => ⟨(HS1.out.below hB).obj.cell (i := 0) rfl, (HS1.out.below hB).obj.cell (i := 1) rfl, (HS1.out.below hB).obj.cell (i := 2) rfl, (HS1.out.below hB).obj.cell (i := 3) rfl, (HOH.out.below hB).cell (i := 0) rfl, (HOH.out.below hB).cell (i := 1) rfl, (HOH.out.below hB).cell (i := 2) rfl, (HOH.out.below hB).cell (i := 3) rfl, (HOH.out.below hB).cell (i := 4) rfl, (HOH.out.below hB).cell (i := 5) rfl, (HOH.out.below hB).cell (i := 6) rfl, (HOH.out.below hB).cell (i := 7) rfl, (HOH.out.below hB).cell (i := 8) rfl, (HOH.out.below hB).cell (i := 9) rfl⟩
  clear h hoH hoR hS1 hA hsz
  go_enter Tryz.func87, Tryz.ntmps87
  go_upto_region 1 with (fail)
  rw [← hW1]
  clear hW1
  have hrr := Below.refl W1.heap.size W1
  obtain ⟨mm0, mm1, mm2, mm3, mm4, mm5, mm6, mm7, mm8, mm9, mm10, mm11, mm12, mm13⟩ := HKS.out _ hrr
  go_region_held3 (fun w' => w'.cell? ⟨b, 0, none⟩ = some (.int .i64 e) ∧ w'.cell? ⟨b, 1, none⟩ = some (.int .i64 k) ∧ w'.cell? ⟨b, 2, none⟩ = some (.int .i64 o) ∧ w'.cell? ⟨b, 3, none⟩ = some (.int .i64 li) ∧ w'.cell? ⟨w.heap.size, 0, none⟩ = some (.int .i64 a) ∧ w'.cell? ⟨w.heap.size, 1, none⟩ = some (.int .i64 t0) ∧ w'.cell? ⟨w.heap.size, 2, none⟩ = some (.int .i64 t1) ∧ w'.cell? ⟨w.heap.size, 3, none⟩ = some (.int .i64 t2) ∧ w'.cell? ⟨w.heap.size, 4, none⟩ = some (.int .i64 t3) ∧ w'.cell? ⟨w.heap.size, 5, none⟩ = some (.int .i64 u0) ∧ w'.cell? ⟨w.heap.size, 6, none⟩ = some (.int .i64 u1) ∧ w'.cell? ⟨w.heap.size, 7, none⟩ = some (.int .i64 u2) ∧ w'.cell? ⟨w.heap.size, 8, none⟩ = some (.int .i64 u3) ∧ w'.cell? ⟨w.heap.size, 9, none⟩ = some (.string s)) (first | exact HKS.out _ (by assumption) | (refine HKS.out _ ?_; go_grown) | go_keep)
    (first
      | (go_at_call 69; refine (sWaiting _ (HS1.out.below (by go_grown : Below W1.heap.size W1 _))).mono ?_; rintro e5 w2 ⟨rfl, hb2⟩; have hw2 : Below W1.heap.size W1 w2 := Below.trans (by go_grown) (Below.mono hb2 (by first | omega | (simp; done) | (simp; omega))); have hs2 := hw2.size; obtain ⟨c2, d2⟩ := bcell hb2)
      | (go_at_call 105; refine (JA.out _).mono ?_; rintro e6 w3 ⟨rfl, hb3⟩; have hw3 : Below W1.heap.size W1 w3 := Below.trans (Below.trans hw2 (Below.mono (by go_grown : Below w2.heap.size w2 _) hs2)) (Below.mono hb3 (by first | omega | (simp; done) | (simp; omega))); have hs3 := hw3.size; obtain ⟨c3, d3⟩ := bcell hb3))
  have HB3 := hide (hA1.trans (hw3.mono (by omega)))
  have HS3 := hide (HS1.out.below hw3)
  have HR3 := hide (HOR.out.below hw3)
  have HH3 := hide (HOH.out.below hw3)
  clear hb2 hb3 hw2 c2 c3 d2 d3 hrr JA HS1 HOR HOH mm0 mm1 mm2 mm3 mm4 mm5 mm6 mm7 mm8 mm9 mm10 mm11 mm12 mm13 hs2
  have g0 := HH3.out.cell (i := 0) rfl
  have g1 := HH3.out.cell (i := 1) rfl
  have g2 := HH3.out.cell (i := 2) rfl
  have g3 := HH3.out.cell (i := 3) rfl
  have g4 := HH3.out.cell (i := 4) rfl
  have g5 := HH3.out.cell (i := 5) rfl
  have g6 := HH3.out.cell (i := 6) rfl
  have g7 := HH3.out.cell (i := 7) rfl
  have g8 := HH3.out.cell (i := 8) rfl
  have g9 := HH3.out.cell (i := 9) rfl
  clear HKS
  go_wp2_with fail
  refine (CW.out _ HS3.out).mono ?_
  rintro r w4 ⟨rfl, v4, hs4, hr4, hk4⟩
  have n1 : w.heap.size + 1 ∉ b :: qS q v := fun hm => by
    rcases List.mem_cons.1 hm with e' | hm
    · omega
    · rcases mem_qS.1 hm with e' | e'
      · omega
      · have := hvl _ e'; omega
  have n2 : v4.ownBlock ≠ some (w.heap.size + 1) := by
    rcases hr4 with e' | ⟨g, e', hg⟩
    · rw [e']; intro e2; have := hvl _ e2; omega
    · rw [e']; intro e2; have := Option.some.inj e2; omega
  have HR4 := hide (hk4.obj HR3.out n1)
  have HW4 : Hid (SQ w4 b e k o li q bi bv (cn + 1) v4 ns ∧ rowOf w v v4 ∧ Kept (b :: qS q v) w w4) := hide ⟨hs4, hr4.imp id (fun ⟨g, h1, h2⟩ => ⟨g, h1, Nat.le_trans HB3.out.size h2⟩), (Kept.of_below HB3.out _).trans hk4⟩
  clear hs4 hr4 hk4 CW HS3 HR3 HB3 HH3 g0 g1 g2 g3 g4 g5 g6 g7 g8 g9 n1
  have r0 := HR4.out.cell (i := 0) rfl
  have f0 := HR4.out.free 0
  have r1 := HR4.out.cell (i := 1) rfl
  have f1 := HR4.out.free 1
  have r2 := HR4.out.cell (i := 2) rfl
  have f2 := HR4.out.free 2
  have r3 := HR4.out.cell (i := 3) rfl
  have f3 := HR4.out.free 3
  have r4 := HR4.out.cell (i := 4) rfl
  have f4 := HR4.out.free 4
  have r5 := HR4.out.cell (i := 5) rfl
  have f5 := HR4.out.free 5
  have r6 := HR4.out.cell (i := 6) rfl
  have f6 := HR4.out.free 6
  have r7 := HR4.out.cell (i := 7) rfl
  have f7 := HR4.out.free 7
  go_wp2
  exact bodyPost_ret (v := .tuple #[.agg #[.int .i64 1, .int .i64 0, .int .i64 0, .int .i64 0, .int .i64 0, .int .i64 0, .int .i64 cn, .bool false], .nilIface]) (by simp [results, Tryz.results87, go_sem, *]) rfl ⟨rfl, v4, SQ.set8 HW4.out.1 ⟨by omega, by omega, n2⟩ _ _ _ _ _ _ _ _, HW4.out.2.1, kept_set8 HW4.out.2.2 (Nat.le_succ _) _ _ _ _ _ _ _ _⟩
set_option maxRecDepth 100000 in
set_option maxHeartbeats 8000000 in
theorem sHello_retry {a t0 t1 t2 t3 u0 u1 u2 u3 : Int} {s : ByteArray} {now : Int} {b : Nat} {e k o li : Int} {q bi bv : Nat} {cn : Int} {v : Value} {zs : List (Int × Int)} {eb : Bool} (hsz : s.size ≤ 9223372036854775807) (hA : ansN e k o a t0 t1 t2 t3 u0 u1 u2 u3 s (zs.length : Int) now li = (0, eb, 0)) (hr : ringE e k o = 0) (ha : inB a = true) (ht : tmB now = true) (w : World) (h : SQ w b e k o li q bi bv cn v zs) :
    Calls Tryz.prog 87 #[.pointer (some ⟨b, 0, none⟩), .agg #[.int .i64 a, .int .i64 t0, .int .i64 t1, .int .i64 t2, .int .i64 t3, .int .i64 u0, .int .i64 u1, .int .i64 u2, .int .i64 u3, .string s], .int .i64 now] w fun r w' => r = .returned (.tuple #[.agg #[.int .i64 0, .int .i64 e, .int .i64 a, .int .i64 now, .int .i64 (tagOf k [1, a, now]), .int .i64 0, .int .i64 0, .bool false], .nilIface]) ∧ Below w.heap.size w w' := by
  have TM := hide (fun W => tokenMake_ok hr ha ht W)
  clear hr ha ht
  have hbl := h.obj.lt
  have hql := h.que.1.lt
  have hvl : ∀ g, v.ownBlock = some g → g < w.heap.size := fun g hg => h.que.2.1.lt g hg
  have JA := hide (fun W => judgeAnswer (wt := (zs.length : Int)) hsz hA W)
  have hA1 : Below w.heap.size w ((w.alloc (.cells #[.int .i64 a, .int .i64 t0, .int .i64 t1, .int .i64 t2, .int .i64 t3, .int .i64 u0, .int .i64 u1, .int .i64 u2, .int .i64 u3, .string s] 69)).alloc (.cells #[.int .i64 0, .int .i64 0, .int .i64 0, .int .i64 0, .int .i64 0, .int .i64 0, .int .i64 0, .bool false] 101)) := ((Below.refl _ _).alloc (Nat.le_refl _) _).alloc (by simp) _
  have hoH : ObjAt ((w.alloc (.cells #[.int .i64 a, .int .i64 t0, .int .i64 t1, .int .i64 t2, .int .i64 t3, .int .i64 u0, .int .i64 u1, .int .i64 u2, .int .i64 u3, .string s] 69)).alloc (.cells #[.int .i64 0, .int .i64 0, .int .i64 0, .int .i64 0, .int .i64 0, .int .i64 0, .int .i64 0, .bool false] 101)) w.heap.size 69 [.int .i64 a, .int .i64 t0, .int .i64 t1, .int .i64 t2, .int .i64 t3, .int .i64 u0, .int .i64 u1, .int .i64 u2, .int .i64 u3, .string s] := (ObjAt.new _ _ _).alloc _
  have hoR : ObjAt ((w.alloc (.cells #[.int .i64 a, .int .i64 t0, .int .i64 t1, .int .i64 t2, .int .i64 t3, .int .i64 u0, .int .i64 u1, .int .i64 u2, .int .i64 u3, .string s] 69)).alloc (.cells #[.int .i64 0, .int .i64 0, .int .i64 0, .int .i64 0, .int .i64 0, .int .i64 0, .int .i64 0, .bool false] 101)) (w.heap.size + 1) 101 [.int .i64 0, .int .i64 0, .int .i64 0, .int .i64 0, .int .i64 0, .int .i64 0, .int .i64 0, .bool false] := objNew (by simp)
  have hS1 := h.below hA1
  obtain ⟨W1, hW1⟩ : ∃ W1, W1 = ((w.alloc (.cells #[.int .i64 a, .int .i64 t0, .int .i64 t1, .int .i64 t2, .int .i64 t3, .int .i64 u0, .int .i64 u1, .int .i64 u2, .int .i64 u3, .string s] 69)).alloc (.cells #[.int .i64 0, .int .i64 0, .int .i64 0, .int .i64 0, .int .i64 0, .int .i64 0, .int .i64 0, .bool false] 101)) := ⟨_, rfl⟩
  have hz1 : W1.heap.size = w.heap.size + 2 := by rw [hW1]; simp
  rw [← hW1] at hA1 hoH hoR hS1
  have HOR := hide hoR
  have HOH := hide hoH
  have HS1 := hide hS1
  have HKS : Hid (∀ w' : World, Below W1.heap.size W1 w' → w'.cell? ⟨b, 0, none⟩ = some (.int .i64 e) ∧ w'.cell? ⟨b, 1, none⟩ = some (.int .i64 k) ∧ w'.cell? ⟨b, 2, none⟩ = some (.int .i64 o) ∧ w'.cell? ⟨b, 3, none⟩ = some (.int .i64 li) ∧ w'.cell? ⟨w.heap.size, 0, none⟩ = some (.int .i64 a) ∧ w'.cell? ⟨w.heap.size, 1, none⟩ = some (.int .i64 t0) ∧ w'.cell? ⟨w.heap.size, 2, none⟩ = some (.int .i64 t1) ∧ w'.cell? ⟨w.heap.size, 3, none⟩ = some (.int .i64 t2) ∧ w'.cell? ⟨w.heap.size, 4, none⟩ = some (.int .i64 t3) ∧ w'.cell? ⟨w.heap.size, 5, none⟩ = some (.int .i64 u0) ∧ w'.cell? ⟨w.heap.size, 6, none⟩ = some (.int .i64 u1) ∧ w'.cell? ⟨w.heap.size, 7, none⟩ = some (.int .i64 u2) ∧ w'.cell? ⟨w.heap.size, 8, none⟩ = some (.int .i64 u3) ∧ w'.cell? ⟨w.heap.size, 9, none⟩ = some (.string s)) := fun w' hB => ⟨(HS1.out.below hB).obj.cell (i := 0) rfl, (HS1.out.below hB).obj.cell (i := 1) rfl, (HS1.out.below hB).obj.cell (i := 2) rfl, (HS1.out.below hB).obj.cell (i := 3) rfl, (HOH.out.below hB).cell (i := 0) rfl, (HOH.out.below hB).cell (i := 1) rfl, (HOH.out.below hB).cell (i := 2) rfl, (HOH.out.below hB).cell (i := 3) rfl, (HOH.out.below hB).cell (i := 4) rfl, (HOH.out.below hB).cell (i := 5) rfl, (HOH.out.below hB).cell (i := 6) rfl, (HOH.out.below hB).cell (i := 7) rfl, (HOH.out.below hB).cell (i := 8) rfl, (HOH.out.below hB).cell (i := 9) rfl⟩
  clear h hoH hoR hS1 hA hsz
  go_enter Tryz.func87, Tryz.ntmps87
  go_upto_region 1 with (fail)
  rw [← hW1]
  clear hW1
  have hrr := Below.refl W1.heap.size W1
  obtain ⟨mm0, mm1, mm2, mm3, mm4, mm5, mm6, mm7, mm8, mm9, mm10, mm11, mm12, mm13⟩ := HKS.out _ hrr
  go_region_held3 (fun w' => w'.cell? ⟨b, 0, none⟩ = some (.int .i64 e) ∧ w'.cell? ⟨b, 1, none⟩ = some (.int .i64 k) ∧ w'.cell? ⟨b, 2, none⟩ = some (.int .i64 o) ∧ w'.cell? ⟨b, 3, none⟩ = some (.int .i64 li) ∧ w'.cell? ⟨w.heap.size, 0, none⟩ = some (.int .i64 a) ∧ w'.cell? ⟨w.heap.size, 1, none⟩ = some (.int .i64 t0) ∧ w'.cell? ⟨w.heap.size, 2, none⟩ = some (.int .i64 t1) ∧ w'.cell? ⟨w.heap.size, 3, none⟩ = some (.int .i64 t2) ∧ w'.cell? ⟨w.heap.size, 4, none⟩ = some (.int .i64 t3) ∧ w'.cell? ⟨w.heap.size, 5, none⟩ = some (.int .i64 u0) ∧ w'.cell? ⟨w.heap.size, 6, none⟩ = some (.int .i64 u1) ∧ w'.cell? ⟨w.heap.size, 7, none⟩ = some (.int .i64 u2) ∧ w'.cell? ⟨w.heap.size, 8, none⟩ = some (.int .i64 u3) ∧ w'.cell? ⟨w.heap.size, 9, none⟩ = some (.string s)) (first | exact HKS.out _ (by assumption) | (refine HKS.out _ ?_; go_grown) | go_keep)
    (first
      | (go_at_call 69; refine (sWaiting _ (HS1.out.below (by go_grown : Below W1.heap.size W1 _))).mono ?_; rintro e5 w2 ⟨rfl, hb2⟩; have hw2 : Below W1.heap.size W1 w2 := Below.trans (by go_grown) (Below.mono hb2 (by first | omega | (simp; done) | (simp; omega))); have hs2 := hw2.size; obtain ⟨c2, d2⟩ := bcell hb2)
      | (go_at_call 105; refine (JA.out _).mono ?_; rintro e6 w3 ⟨rfl, hb3⟩; have hw3 : Below W1.heap.size W1 w3 := Below.trans (Below.trans hw2 (Below.mono (by go_grown : Below w2.heap.size w2 _) hs2)) (Below.mono hb3 (by first | omega | (simp; done) | (simp; omega))); have hs3 := hw3.size; obtain ⟨c3, d3⟩ := bcell hb3))
  have HB3 := hide (hA1.trans (hw3.mono (by omega)))
  have HS3 := hide (HS1.out.below hw3)
  have HR3 := hide (HOR.out.below hw3)
  have HH3 := hide (HOH.out.below hw3)
  clear hb2 hb3 hw2 c2 c3 d2 d3 hrr JA HS1 HOR HOH mm0 mm1 mm2 mm3 mm4 mm5 mm6 mm7 mm8 mm9 mm10 mm11 mm12 mm13 hs2
  have HK3 : Hid (∀ w' : World, Below w3.heap.size w3 w' → w'.cell? ⟨b, 0, none⟩ = some (.int .i64 e) ∧ w'.cell? ⟨b, 1, none⟩ = some (.int .i64 k) ∧ w'.cell? ⟨b, 2, none⟩ = some (.int .i64 o) ∧ w'.cell? ⟨w.heap.size, 0, none⟩ = some (.int .i64 a)) := fun w' hB => ⟨(HS3.out.below hB).obj.cell (i := 0) rfl, (HS3.out.below hB).obj.cell (i := 1) rfl, (HS3.out.below hB).obj.cell (i := 2) rfl, (HH3.out.below hB).cell (i := 0) rfl⟩
  clear HKS
  go_wp2_with fail
  obtain ⟨tg, htg⟩ : ∃ tg, tagOf k [1, a, now] = tg := ⟨_, rfl⟩
  rw [htg] at TM
  have HTG := hide htg
  clear htg
  have hrr := Below.refl w3.heap.size w3
  obtain ⟨mm0, mm1, mm2, mm3⟩ := HK3.out _ hrr
  have z1 := HS3.out.obj.lt
  have z2 := HR3.out.lt
  go_region_held3 (fun w' => w'.cell? ⟨b, 0, none⟩ = some (.int .i64 e) ∧ w'.cell? ⟨b, 1, none⟩ = some (.int .i64 k) ∧ w'.cell? ⟨b, 2, none⟩ = some (.int .i64 o) ∧ w'.cell? ⟨w.heap.size, 0, none⟩ = some (.int .i64 a)) (first | exact HK3.out _ (by assumption) | (refine HK3.out _ ?_; go_grown) | go_keep)
    (first | (go_at_call 107; refine (TM.out _).mono ?_; rintro e5 w4 ⟨rfl, hb4⟩; have hw4 : Below w3.heap.size w3 w4 := Below.trans (by go_grown) (Below.mono hb4 (by first | omega | (simp; done) | (simp; omega))); have hs4 := hb4.size; (try simp at hs4); have hs4b := hw4.size; obtain ⟨c4, d4⟩ := bcell hb4))
  ·
    obtain ⟨W5, hW5⟩ : ∃ W5, W5 = w4.alloc (.cells #[.int .i64 e, .int .i64 a, .int .i64 now, .int .i64 tg] 65) := ⟨_, rfl⟩
    have HB5 : Hid (Below w.heap.size w W5) := by rw [hW5]; exact (HB3.out.trans (hw4.mono HB3.out.size)).alloc (by have := HB3.out.size; omega) _
    have HR5 : Hid (ObjAt W5 (w.heap.size + 1) 101 [.int .i64 0, .int .i64 0, .int .i64 0, .int .i64 0, .int .i64 0, .int .i64 0, .int .i64 0, .bool false]) := by rw [hW5]; exact (HR3.out.below hw4).alloc _
    have HT5 : Hid (ObjAt W5 w4.heap.size 65 [.int .i64 e, .int .i64 a, .int .i64 now, .int .i64 tg]) := by rw [hW5]; exact ObjAt.new _ _ _
    rw [← hW5]
    clear hb4 hw4 TM HK3 HS3 HR3 HB3 HH3 mm0 mm1 mm2 mm3 hrr c4 d4 hs4 hs4b hW5
    have x0 := HT5.out.cell (i := 0) rfl
    have x1 := HT5.out.cell (i := 1) rfl
    have x2 := HT5.out.cell (i := 2) rfl
    have x3 := HT5.out.cell (i := 3) rfl
    have r0 := HR5.out.cell (i := 0) rfl
    have f0 := HR5.out.free 0
    have r1 := HR5.out.cell (i := 1) rfl
    have f1 := HR5.out.free 1
    have r2 := HR5.out.cell (i := 2) rfl
    have f2 := HR5.out.free 2
    have r3 := HR5.out.cell (i := 3) rfl
    have f3 := HR5.out.free 3
    have r4 := HR5.out.cell (i := 4) rfl
    have f4 := HR5.out.free 4
    have r5 := HR5.out.cell (i := 5) rfl
    have f5 := HR5.out.free 5
    have r6 := HR5.out.cell (i := 6) rfl
    have f6 := HR5.out.free 6
    have r7 := HR5.out.cell (i := 7) rfl
    have f7 := HR5.out.free 7
    go_wp2
    exact bodyPost_ret (v := .tuple #[.agg #[.int .i64 0, .int .i64 e, .int .i64 a, .int .i64 now, .int .i64 (tg), .int .i64 0, .int .i64 0, .bool false], .nilIface]) (by simp [results, Tryz.results87, go_sem, *]) rfl ⟨by rw [HTG.out], bel_set8 HB5.out (Nat.le_succ _) _ _ _ _ _ _ _ _⟩
  ·
    obtain ⟨W5, hW5⟩ : ∃ W5, W5 = (((w4.setCell ⟨w3.heap.size, 0, none⟩ (.int .i64 e)).setCell ⟨w3.heap.size, 1, none⟩ (.int .i64 a)).setCell ⟨w3.heap.size, 2, none⟩ (.int .i64 now)).setCell ⟨w3.heap.size, 3, none⟩ (.int .i64 tg) := ⟨_, rfl⟩
    have hbx : w.heap.size ≤ w3.heap.size := HB3.out.size
    have HB5 : Hid (Below w.heap.size w W5) := by rw [hW5]; exact ((((HB3.out.trans (hw4.mono HB3.out.size)).setCell (p := ⟨w3.heap.size, 0, none⟩) hbx _).setCell (p := ⟨w3.heap.size, 1, none⟩) hbx _).setCell (p := ⟨w3.heap.size, 2, none⟩) hbx _).setCell (p := ⟨w3.heap.size, 3, none⟩) hbx _
    have HR5 : Hid (ObjAt W5 (w.heap.size + 1) 101 [.int .i64 0, .int .i64 0, .int .i64 0, .int .i64 0, .int .i64 0, .int .i64 0, .int .i64 0, .bool false]) := by rw [hW5]; exact ((((HR3.out.below hw4).setOther (a := ⟨w3.heap.size, 0, none⟩) (Nat.ne_of_lt z2) _).setOther (a := ⟨w3.heap.size, 1, none⟩) (Nat.ne_of_lt z2) _).setOther (a := ⟨w3.heap.size, 2, none⟩) (Nat.ne_of_lt z2) _).setOther (a := ⟨w3.heap.size, 3, none⟩) (Nat.ne_of_lt z2) _
    have HT5 : Hid (ObjAt W5 w3.heap.size 65 [.int .i64 e, .int .i64 a, .int .i64 now, .int .i64 tg]) := by
      rw [hW5]
      have o4 : ObjAt w4 w3.heap.size 65 [.int .i64 0, .int .i64 0, .int .i64 0, .int .i64 0] := ObjAt.below ((ObjAt.new w3 _ _).drew) hb4
      exact ((((o4.set 0 (.int .i64 e)).set 1 (.int .i64 a)).set 2 (.int .i64 now)).set 3 (.int .i64 tg))
    rw [← hW5]
    clear hb4 hw4 TM HK3 HS3 HR3 HB3 HH3 mm0 mm1 mm2 mm3 hrr c4 d4 hs4 hs4b hW5
    have x0 := HT5.out.cell (i := 0) rfl
    have x1 := HT5.out.cell (i := 1) rfl
    have x2 := HT5.out.cell (i := 2) rfl
    have x3 := HT5.out.cell (i := 3) rfl
    have r0 := HR5.out.cell (i := 0) rfl
    have f0 := HR5.out.free 0
    have r1 := HR5.out.cell (i := 1) rfl
    have f1 := HR5.out.free 1
    have r2 := HR5.out.cell (i := 2) rfl
    have f2 := HR5.out.free 2
    have r3 := HR5.out.cell (i := 3) rfl
    have f3 := HR5.out.free 3
    have r4 := HR5.out.cell (i := 4) rfl
    have f4 := HR5.out.free 4
    have r5 := HR5.out.cell (i := 5) rfl
    have f5 := HR5.out.free 5
    have r6 := HR5.out.cell (i := 6) rfl
    have f6 := HR5.out.free 6
    have r7 := HR5.out.cell (i := 7) rfl
    have f7 := HR5.out.free 7
    go_wp2
    exact bodyPost_ret (v := .tuple #[.agg #[.int .i64 0, .int .i64 e, .int .i64 a, .int .i64 now, .int .i64 (tg), .int .i64 0, .int .i64 0, .bool false], .nilIface]) (by simp [results, Tryz.results87, go_sem, *]) rfl ⟨by rw [HTG.out], bel_set8 HB5.out (Nat.le_succ _) _ _ _ _ _ _ _ _⟩
end Go.Proofs.YtlnghfmcofmkjaaGreatDoor
