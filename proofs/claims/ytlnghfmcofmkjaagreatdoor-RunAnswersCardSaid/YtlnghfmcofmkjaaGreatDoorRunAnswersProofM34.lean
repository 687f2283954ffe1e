/- server: Hello, where early bytes may be taken, by contracts over the whole server. What the fault of a token that was made is. No program in sight. The walk of JudgeMeans. The two ways of a block's next number. -/
import Derived.Test.YtlnghfmcofmkjaaGreatDoorWelcomeE
import Derived.Test.YtlnghfmcofmkjaaGreatDoorSHello
import Derived.Test.YtlnghfmcofmkjaaGreatDoorTokenC
import Derived.Test.YtlnghfmcofmkjaaGreatDoorTokenM
import Derived.Test.YtlnghfmcofmkjaaGreatDoorAnswer
import Derived.Test.YtlnghfmcofmkjaaGreatDoorRunAnswersProofM10
import Derived.Test.YtlnghfmcofmkjaaGreatDoorRunAnswersProofM4
import Derived.Deep.Cut
import Derived.Test.YtlnghfmcofmkjaaGreatDoorRunAnswersProofM12
namespace Go.Proofs.YtlnghfmcofmkjaaGreatDoor
open Go.RowKit

set_option maxRecDepth 100000 in
set_option maxHeartbeats 8000000 in
theorem sHelloE_ok {a t0 t1 t2 t3 u0 u1 u2 u3 : Int} {s : ByteArray} {now : Int} {B b q bi bb bv : Nat} {e k o li cn : Int} {v va vb : Value} {zs z1 z2 : List (Int × Int)} {n m many : Int} {ns ys : List (Int × Int)} (hsz : s.size ≤ 9223372036854775807) (hA : ansN e k o a t0 t1 t2 t3 u0 u1 u2 u3 s (zs.length : Int) now li = (1, true, 0)) (hns : zs ++ [(0, cn)] = ns) (hc : offE zs 0 cn = 0) (hcn : 0 ≤ cn ∧ cn < 4096) (hys : spDrop z1 now ++ [(u1, u2)] = ys) (hsp : spMoreE z1 u1 u2 now = 0) (hl1 : z1.length ≤ 999) (w : World) (hB : B ≤ w.heap.size) (h : SV w B b q bi bb bv e k o li cn v va vb zs z1 z2 n m many) :
    Calls Tryz.prog 87 #[.pointer (some ⟨b, 0, none⟩), .agg #[.int .i64 a, .int .i64 t0, .int .i64 t1, .int .i64 t2, .int .i64 t3, .int .i64 u0, .int .i64 u1, .int .i64 u2, .int .i64 u3, .string s], .int .i64 now] w fun r w' => r = .returned (.tuple #[.agg #[.int .i64 1, .int .i64 0, .int .i64 0, .int .i64 0, .int .i64 0, .int .i64 0, .int .i64 cn, .bool true], .nilIface]) ∧ ∃ v' va' vb', SV w' B b q bi bb bv e k o li (cn + 1) v' va' vb' ns ys ys n m many ∧ SVst (svF b q bi bb bv v va vb) (svF b q bi bb bv v' va' vb') w w' := by
  have CW := hide (fun W (hb : B ≤ W.heap.size) (h : SV W B b q bi bb bv e k o li cn v va vb zs z1 z2 n m many) => sWelE_ok (a := a) (t0 := t0) (t1 := t1) (t2 := t2) (t3 := t3) (u0 := u0) (u1 := u1) (u2 := u2) (u3 := u3) (s := s) (now := now) hns hc hcn hys hsp hl1 W hb h)
  have HV := hide h
  have hnF : ∀ x, w.heap.size ≤ x → x ∉ svF b q bi bb bv v va vb := fun x hx hm => by have := (h.lt x hm).2; omega
  replace h := h.sq
  clear hns hc hcn hys hsp hl1
  have hbl := h.obj.lt
  have hql := h.que.1.lt
  have hvl : ∀ g, v.ownBlock = some g → g < w.heap.size := fun g hg => h.que.2.1.lt g hg
  have JA := hide (fun W => judgeAnswer (wt := (zs.length : Int)) hsz hA W)
  have hA1 : Below w.heap.size w ((w.alloc (.cells #[.int .i64 a, .int .i64 t0, .int .i64 t1, .int .i64 t2, .int .i64 t3, .int .i64 u0, .int .i64 u1, .int .i64 u2, .int .i64 u3, .string s] 69)).alloc (.cells #[.int .i64 0, .int .i64 0, .int .i64 0, .int .i64 0, .int .i64 0, .int .i64 0, .int .i64 0, .bool false] 101)) := ((Below.refl _ _).alloc (Nat.le_refl _) _).alloc (by simp) _
  have hoH : ObjAt ((w.alloc (.cells #[.int .i64 a, .int .i64 t0, .int .i64 t1, .int .i64 t2, .int .i64 t3, .int .i64 u0, .int .i64 u1, .int .i64 u2, .int .i64 u3, .string s] 69)).alloc (.cells #[.int .i64 0, .int .i64 0, .int .i64 0, .int .i64 0, .int .i64 0, .int .i64 0, .int .i64 0, .bool false] 101)) w.heap.size 69 [.int .i64 a, .int .i64 t0, .int .i64 t1, .int .i64 t2, .int .i64 t3, .int .i64 u0, .int .i64 u1, .int .i64 u2, .int .i64 u3, .string s] := (ObjAt.new _ _ _).alloc _
  have hoR : ObjAt ((w.alloc (.cells #[.int .i64 a, .int .i64 t0, .int .i64 t1, .int .i64 t2, .int .i64 t3, .int .i64 u0, .int .i64 u1, .int .i64 u2, .int .i64 u3, .string s] 69)).alloc (.cells #[.int .i64 0, .int .i64 0, .int .i64 0, .int .i64 0, .int .i64 0, .int .i64 0, .int .i64 0, .bool false] 101)) (w.heap.size + 1) 101 [.int .i64 0, .int .i64 0, .int .i64 0, .int .i64 0, .int .i64 0, .int .i64 0, .int .i64 0, .bool false] := objNew (by simp)
  have hS1 := h.below hA1
  obtain ⟨W1, hW1⟩ : ∃ W1, W1 = ((w.alloc (.cells #[.int .i64 a, .int .i64 t0, .int .i64 t1, .int .i64 t2, .int .i64 t3, .int .i64 u0, .int .i64 u1, .int .i64 u2, .int .i64 u3, .string s] 69)).alloc (.cells #[.int .i64 0, .int .i64 0, .int .i64 0, .int .i64 0, .int .i64 0, .int .i64 0, .int .i64 0, .bool false] 101)) := ⟨_, rfl⟩
  have hz1 : W1.heap.size = w.heap.size + 2 := by rw [hW1]; simp
  rw [← hW1] at hA1 hoH hoR hS1
  have HOR := hide hoR
  have HOH := hide hoH
  have HS1 := hide hS1
  have HKS : Hid (∀ w' : World, Below W1.heap.size W1 w' → w'.cell? ⟨b, 0, none⟩ = some (.int .i64 e) ∧ w'.cell? ⟨b, 1, none⟩ = some (.int .i64 k) ∧ w'.cell? ⟨b, 2, none⟩ = some (.int .i64 o) ∧ w'.cell? ⟨b, 3, none⟩ = some (.int .i64 li) ∧ w'.cell? ⟨w.heap.size, 0, none⟩ = some (.int .i64 a) ∧ w'.cell? ⟨w.heap.size, 1, none⟩ = some (.int .i64 t0) ∧ w'.cell? ⟨w.heap.size, 2, none⟩ = some (.int .i64 t1) ∧ w'.cell? ⟨w.heap.size, 3, none⟩ = some (.int .i64 t2) ∧ w'.cell? ⟨w.heap.size, 4, none⟩ = some (.int .i64 t3) ∧ w'.cell? ⟨w.heap.size, 5, none⟩ = some (.int .i64 u0) ∧ w'.cell? ⟨w.heap.size, 6, none⟩ = some (.int .i64 u1) ∧ w'.cell? ⟨w.heap.size, 7, none⟩ = some (.int .i64 u2) ∧ w'.cell? ⟨w.heap.size, 8, none⟩ = some (.int .i64 u3) ∧ w'.cell? ⟨w.heap.size, 9, none⟩ = some (.string s)) := fun w' hB => ⟨(HS1.out.below hB).obj.cell (i := 0) rfl, (HS1.out.below hB).obj.cell (i := 1) rfl, (HS1.out.below hB).obj.cell (i := 2) rfl, (HS1.out.below hB).obj.cell (i := 3) rfl, (HOH.out.below hB).cell (i := 0) rfl, (HOH.out.below hB).cell (i := 1) rfl, (HOH.out.below hB).cell (i := 2) rfl, (HOH.out.below hB).cell (i := 3) rfl, (HOH.out.below hB).cell (i := 4) rfl, (HOH.out.below hB).cell (i := 5) rfl, (HOH.out.below hB).cell (i := 6) rfl, (HOH.out.below hB).cell (i := 7) rfl, (HOH.out.below hB).cell (i := 8) rfl, (HOH.out.below hB).cell (i := 9) rfl⟩
  clear h hoH hoR hS1 hA hsz
  go_enter Tryz.func87, Tryz.ntmps87
  go_upto_region 1 with (fail)
  rw [← hW1]
  clear hW1
  have hrr := Below.refl W1.heap.size W1
  obtain ⟨mm0, mm1, mm2, mm3, mm4, mm5, mm6, mm7, mm8, mm9, mm10, mm11, mm12, mm13⟩ := HKS.out _ hrr
  go_region_held3 (fun w' => w'.cell? ⟨b, 0, none⟩ = some (.int .i64 e) ∧ w'.cell? ⟨b, 1, none⟩ = some (.int .i64 k) ∧ w'.cell? ⟨b, 2, none⟩ = some (.int .i64 o) ∧ w'.cell? ⟨b, 3, none⟩ = some (.int .i64 li) ∧ w'.cell? ⟨w.heap.size, 0, none⟩ = some (.int .i64 a) ∧ w'.cell? ⟨w.heap.size, 1, none⟩ = some (.int .i64 t0) ∧ w'.cell? ⟨w.heap.size, 2, none⟩ = some (.int .i64 t1) ∧ w'.cell? ⟨w.heap.size, 3, none⟩ = some (.int .i64 t2) ∧ w'.cell? ⟨w.heap.size, 4, none⟩ = some (.int .i64 t3) ∧ w'.cell? ⟨w.heap.size, 5, none⟩ = some (.int .i64 u0) ∧ w'.cell? ⟨w.heap.size, 6, none⟩ = some (.int .i64 u1) ∧ w'.cell? ⟨w.heap.size, 7, none⟩ = some (.int .i64 u2) ∧ w'.cell? ⟨w.heap.size, 8, none⟩ = some (.int .i64 u3) ∧ w'.cell? ⟨w.heap.size, 9, none⟩ = some (.string s)) (first | exact HKS.out _ (by assumption) | (refine HKS.out _ ?_; go_grown) | go_keep)
    (first
      | (go_at_call 69; refine (sWaiting _ (HS1.out.below (by go_grown : Below W1.heap.size W1 _))).mono ?_; rintro e5 w2 ⟨rfl, hb2⟩; have hw2 : Below W1.heap.size W1 w2 := Below.trans (by go_grown) (Below.mono hb2 (by first | omega | (simp; done) | (simp; omega))); have hs2 := hw2.size; obtain ⟨c2, d2⟩ := bcell hb2)
      | (go_at_call 105; refine (JA.out _).mono ?_; rintro e6 w3 ⟨rfl, hb3⟩; have hw3 : Below W1.heap.size W1 w3 := Below.trans (Below.trans hw2 (Below.mono (by go_grown : Below w2.heap.size w2 _) hs2)) (Below.mono hb3 (by first | omega | (simp; done) | (simp; omega))); have hs3 := hw3.size; obtain ⟨c3, d3⟩ := bcell hb3))
  have HB3 := hide (hA1.trans (hw3.mono (by omega)))
  have HS3 := hide (HS1.out.below hw3)
  have HR3 := hide (HOR.out.below hw3)
  have HH3 := hide (HOH.out.below hw3)
  clear hb2 hb3 hw2 c2 c3 d2 d3 hrr JA HS1 HOR HOH mm0 mm1 mm2 mm3 mm4 mm5 mm6 mm7 mm8 mm9 mm10 mm11 mm12 mm13 hs2
  have g0 := HH3.out.cell (i := 0) rfl
  have g1 := HH3.out.cell (i := 1) rfl
  have g2 := HH3.out.cell (i := 2) rfl
  have g3 := HH3.out.cell (i := 3) rfl
  have g4 := HH3.out.cell (i := 4) rfl
  have g5 := HH3.out.cell (i := 5) rfl
  have g6 := HH3.out.cell (i := 6) rfl
  have g7 := HH3.out.cell (i := 7) rfl
  have g8 := HH3.out.cell (i := 8) rfl
  have g9 := HH3.out.cell (i := 9) rfl
  have HV3 := hide (HV.out.below HB3.out)
  have hB3 : B ≤ w3.heap.size := Nat.le_trans hB HB3.out.size
  clear HKS HV
  go_wp2_with fail
  refine (CW.out _ hB3 HV3.out).mono ?_
  rintro r w4 ⟨rfl, v4, va4, vb4, hs4, ht4⟩
  have hX4 := ht4.out (X := w.heap.size + 1) HR3.out.lt (hnF _ (by omega))
  have HR4 := hide (ht4.1.obj HR3.out (hnF _ (by omega)))
  have HS4 := hide hs4
  have HT4 := hide (SVst.pre HB3.out ht4)
  clear hs4 ht4 CW HS3 HR3 HB3 HH3 HV3 g0 g1 g2 g3 g4 g5 g6 g7 g8 g9
  have r0 := HR4.out.cell (i := 0) rfl
  have f0 := HR4.out.free 0
  have r1 := HR4.out.cell (i := 1) rfl
  have f1 := HR4.out.free 1
  have r2 := HR4.out.cell (i := 2) rfl
  have f2 := HR4.out.free 2
  have r3 := HR4.out.cell (i := 3) rfl
  have f3 := HR4.out.free 3
  have r4 := HR4.out.cell (i := 4) rfl
  have f4 := HR4.out.free 4
  have r5 := HR4.out.cell (i := 5) rfl
  have f5 := HR4.out.free 5
  have r6 := HR4.out.cell (i := 6) rfl
  have f6 := HR4.out.free 6
  have r7 := HR4.out.cell (i := 7) rfl
  have f7 := HR4.out.free 7
  go_wp2
  exact bodyPost_ret (v := .tuple #[.agg #[.int .i64 1, .int .i64 0, .int .i64 0, .int .i64 0, .int .i64 0, .int .i64 0, .int .i64 cn, .bool true], .nilIface]) (by simp [results, Tryz.results87, go_sem, *]) rfl ⟨rfl, v4, va4, vb4, HS4.out.set8 hX4 _ _ _ _ _ _ _ _, HT4.out.set8 (Nat.le_succ _) _ _ _ _ _ _ _ _⟩
set_option maxRecDepth 100000 in
set_option maxHeartbeats 8000000 in
theorem sHelloE_no {a t0 t1 t2 t3 u0 u1 u2 u3 : Int} {s : ByteArray} {now : Int} {B b q bi bb bv : Nat} {e k o li cn : Int} {v va vb : Value} {zs z1 z2 : List (Int × Int)} {n m many : Int} {ns : List (Int × Int)} (hsz : s.size ≤ 9223372036854775807) (hA : ansN e k o a t0 t1 t2 t3 u0 u1 u2 u3 s (zs.length : Int) now li = (1, true, 0)) (hns : zs ++ [(0, cn)] = ns) (hc : offE zs 0 cn = 0) (hcn : 0 ≤ cn ∧ cn < 4096) {c : Int} (hsp : spMoreE z1 u1 u2 now = c) (hsc : c ≠ 0) (w : World) (hB : B ≤ w.heap.size) (h : SV w B b q bi bb bv e k o li cn v va vb zs z1 z2 n m many) :
    Calls Tryz.prog 87 #[.pointer (some ⟨b, 0, none⟩), .agg #[.int .i64 a, .int .i64 t0, .int .i64 t1, .int .i64 t2, .int .i64 t3, .int .i64 u0, .int .i64 u1, .int .i64 u2, .int .i64 u3, .string s], .int .i64 now] w fun r w' => r = .returned (.tuple #[.agg #[.int .i64 1, .int .i64 0, .int .i64 0, .int .i64 0, .int .i64 0, .int .i64 0, .int .i64 cn, .bool false], .nilIface]) ∧ ∃ v', SV w' B b q bi bb bv e k o li (cn + 1) v' va vb ns z1 z2 n m many ∧ SVst (svF b q bi bb bv v va vb) (svF b q bi bb bv v' va vb) w w' := by
  have CW := hide (fun W (hb : B ≤ W.heap.size) (h : SV W B b q bi bb bv e k o li cn v va vb zs z1 z2 n m many) => sWelE_no (a := a) (t0 := t0) (t1 := t1) (t2 := t2) (t3 := t3) (u0 := u0) (u1 := u1) (u2 := u2) (u3 := u3) (s := s) (now := now) hns hc hcn hsp hsc W hb h)
  have HV := hide h
  have hnF : ∀ x, w.heap.size ≤ x → x ∉ svF b q bi bb bv v va vb := fun x hx hm => by have := (h.lt x hm).2; omega
  replace h := h.sq
  clear hns hc hcn hsp hsc
  have hbl := h.obj.lt
  have hql := h.que.1.lt
  have hvl : ∀ g, v.ownBlock = some g → g < w.heap.size := fun g hg => h.que.2.1.lt g hg
  have JA := hide (fun W => judgeAnswer (wt := (zs.length : Int)) hsz hA W)
  have hA1 : Below w.heap.size w ((w.alloc (.cells #[.int .i64 a, .int .i64 t0, .int .i64 t1, .int .i64 t2, .int .i64 t3, .int .i64 u0, .int .i64 u1, .int .i64 u2, .int .i64 u3, .string s] 69)).alloc (.cells #[.int .i64 0, .int .i64 0, .int .i64 0, .int .i64 0, .int .i64 0, .int .i64 0, .int .i64 0, .bool false] 101)) := ((Below.refl _ _).alloc (Nat.le_refl _) _).alloc (by simp) _
  have hoH : ObjAt ((w.alloc (.cells #[.int .i64 a, .int .i64 t0, .int .i64 t1, .int .i64 t2, .int .i64 t3, .int .i64 u0, .int .i64 u1, .int .i64 u2, .int .i64 u3, .string s] 69)).alloc (.cells #[.int .i64 0, .int .i64 0, .int .i64 0, .int .i64 0, .int .i64 0, .int .i64 0, .int .i64 0, .bool false] 101)) w.heap.size 69 [.int .i64 a, .int .i64 t0, .int .i64 t1, .int .i64 t2, .int .i64 t3, .int .i64 u0, .int .i64 u1, .int .i64 u2, .int .i64 u3, .string s] := (ObjAt.new _ _ _).alloc _
  have hoR : ObjAt ((w.alloc (.cells #[.int .i64 a, .int .i64 t0, .int .i64 t1, .int .i64 t2, .int .i64 t3, .int .i64 u0, .int .i64 u1, .int .i64 u2, .int .i64 u3, .string s] 69)).alloc (.cells #[.int .i64 0, .int .i64 0, .int .i64 0, .int .i64 0, .int .i64 0, .int .i64 0, .int .i64 0, .bool false] 101)) (w.heap.size + 1) 101 [.int .i64 0, .int .i64 0, .int .i64 0, .int .i64 0, .int .i64 0, .int .i64 0, .int .i64 0, .bool false] := objNew (by simp)
  have hS1 := h.below hA1
  obtain ⟨W1, hW1⟩ : ∃ W1, W1 = ((w.alloc (.cells #[.int .i64 a, .int .i64 t0, .int .i64 t1, .int .i64 t2, .int .i64 t3, .int .i64 u0, .int .i64 u1, .int .i64 u2, .int .i64 u3, .string s] 69)).alloc (.cells #[.int .i64 0, .int .i64 0, .int .i64 0, .int .i64 0, .int .i64 0, .int .i64 0, .int .i64 0, .bool false] 101)) := ⟨_, rfl⟩
  have hz1 : W1.heap.size = w.heap.size + 2 := by rw [hW1]; simp
  rw [← hW1] at hA1 hoH hoR hS1
  have HOR := hide hoR
  have HOH := hide hoH
  have HS1 := hide hS1
  have HKS : Hid (∀ w' : World, Below W1.heap.size W1 w' → w'.cell? ⟨b, 0, none⟩ = some (.int .i64 e) ∧ w'.cell? ⟨b, 1, none⟩ = some (.int .i64 k) ∧ w'.cell? ⟨b, 2, none⟩ = some (.int .i64 o) ∧ w'.cell? ⟨b, 3, none⟩ = some (.int .i64 li) ∧ w'.cell? ⟨w.heap.size, 0, none⟩ = some (.int .i64 a) ∧ w'.cell? ⟨w.heap.size, 1, none⟩ = some (.int .i64 t0) ∧ w'.cell? ⟨w.heap.size, 2, none⟩ = some (.int .i64 t1) ∧ w'.cell? ⟨w.heap.size, 3, none⟩ = some (.int .i64 t2) ∧ w'.cell? ⟨w.heap.size, 4, none⟩ = some (.int .i64 t3) ∧ w'.cell? ⟨w.heap.size, 5, none⟩ = some (.int .i64 u0) ∧ w'.cell? ⟨w.heap.size, 6, none⟩ = some (.int .i64 u1) ∧ w'.cell? ⟨w.heap.size, 7, none⟩ = some (.int .i64 u2) ∧ w'.cell? ⟨w.heap.size, 8, none⟩ = some (.int .i64 u3) ∧ w'.cell? ⟨w.heap.size, 9, none⟩ = some (.string s)) := fun w' hB => ⟨(HS1.out.below hB).obj.cell (i := 0) rfl, (HS1.out.below hB).obj.cell (i := 1) rfl, (HS1.out.below hB).obj.cell (i := 2) rfl, (HS1.out.below hB).obj.cell (i := 3) rfl, (HOH.out.below hB).cell (i := 0) rfl, (HOH.out.below hB).cell (i := 1) rfl, (HOH.out.below hB).cell (i := 2) rfl, (HOH.out.below hB).cell (i := 3) rfl, (HOH.out.below hB).cell (i := 4) rfl, (HOH.out.below hB).cell (i := 5) rfl, (HOH.out.below hB).cell (i := 6) rfl, (HOH.out.below hB).cell (i := 7) rfl, (HOH.out.below hB).cell (i := 8) rfl, (HOH.out.below hB).cell (i := 9) rfl⟩
  clear h hoH hoR hS1 hA hsz
  go_enter Tryz.func87, Tryz.ntmps87
  go_upto_region 1 with (fail)
  rw [← hW1]
  clear hW1
  have hrr := Below.refl W1.heap.size W1
  obtain ⟨mm0, mm1, mm2, mm3, mm4, mm5, mm6, mm7, mm8, mm9, mm10, mm11, mm12, mm13⟩ := HKS.out _ hrr
  go_region_held3 (fun w' => w'.cell? ⟨b, 0, none⟩ = some (.int .i64 e) ∧ w'.cell? ⟨b, 1, none⟩ = some (.int .i64 k) ∧ w'.cell? ⟨b, 2, none⟩ = some (.int .i64 o) ∧ w'.cell? ⟨b, 3, none⟩ = some (.int .i64 li) ∧ w'.cell? ⟨w.heap.size, 0, none⟩ = some (.int .i64 a) ∧ w'.cell? ⟨w.heap.size, 1, none⟩ = some (.int .i64 t0) ∧ w'.cell? ⟨w.heap.size, 2, none⟩ = some (.int .i64 t1) ∧ w'.cell? ⟨w.heap.size, 3, none⟩ = some (.int .i64 t2) ∧ w'.cell? ⟨w.heap.size, 4, none⟩ = some (.int .i64 t3) ∧ w'.cell? ⟨w.heap.size, 5, none⟩ = some (.int .i64 u0) ∧ w'.cell? ⟨w.heap.size, 6, none⟩ = some (.int .i64 u1) ∧ w'.cell? ⟨w.heap.size, 7, none⟩ = some (.int .i64 u2) ∧ w'.cell? ⟨w.heap.size, 8, none⟩ = some (.int .i64 u3) ∧ w'.cell? ⟨w.heap.size, 9, none⟩ = some (.string s)) (first | exact HKS.out _ (by assumption) | (refine HKS.out _ ?_; go_grown) | go_keep)
    (first
      | (go_at_call 69; refine (sWaiting _ (HS1.out.below (by go_grown : Below W1.heap.size W1 _))).mono ?_; rintro e5 w2 ⟨rfl, hb2⟩; have hw2 : Below W1.heap.size W1 w2 := Below.trans (by go_grown) (Below.mono hb2 (by first | omega | (simp; done) | (simp; omega))); have hs2 := hw2.size; obtain ⟨c2, d2⟩ := bcell hb2)
      | (go_at_call 105; refine (JA.out _).mono ?_; rintro e6 w3 ⟨rfl, hb3⟩; have hw3 : Below W1.heap.size W1 w3 := Below.trans (Below.trans hw2 (Below.mono (by go_grown : Below w2.heap.size w2 _) hs2)) (Below.mono hb3 (by first | omega | (simp; done) | (simp; omega))); have hs3 := hw3.size; obtain ⟨c3, d3⟩ := bcell hb3))
  have HB3 := hide (hA1.trans (hw3.mono (by omega)))
  have HS3 := hide (HS1.out.below hw3)
  have HR3 := hide (HOR.out.below hw3)
  have HH3 := hide (HOH.out.below hw3)
  clear hb2 hb3 hw2 c2 c3 d2 d3 hrr JA HS1 HOR HOH mm0 mm1 mm2 mm3 mm4 mm5 mm6 mm7 mm8 mm9 mm10 mm11 mm12 mm13 hs2
  have g0 := HH3.out.cell (i := 0) rfl
  have g1 := HH3.out.cell (i := 1) rfl
  have g2 := HH3.out.cell (i := 2) rfl
  have g3 := HH3.out.cell (i := 3) rfl
  have g4 := HH3.out.cell (i := 4) rfl
  have g5 := HH3.out.cell (i := 5) rfl
  have g6 := HH3.out.cell (i := 6) rfl
  have g7 := HH3.out.cell (i := 7) rfl
  have g8 := HH3.out.cell (i := 8) rfl
  have g9 := HH3.out.cell (i := 9) rfl
  have HV3 := hide (HV.out.below HB3.out)
  have hB3 : B ≤ w3.heap.size := Nat.le_trans hB HB3.out.size
  clear HKS HV
  go_wp2_with fail
  refine (CW.out _ hB3 HV3.out).mono ?_
  rintro r w4 ⟨rfl, v4, hs4, ht4⟩
  have hX4 := ht4.out (X := w.heap.size + 1) HR3.out.lt (hnF _ (by omega))
  have HR4 := hide (ht4.1.obj HR3.out (hnF _ (by omega)))
  have HS4 := hide hs4
  have HT4 := hide (SVst.pre HB3.out ht4)
  clear hs4 ht4 CW HS3 HR3 HB3 HH3 HV3 g0 g1 g2 g3 g4 g5 g6 g7 g8 g9
  have r0 := HR4.out.cell (i := 0) rfl
  have f0 := HR4.out.free 0
  have r1 := HR4.out.cell (i := 1) rfl
  have f1 := HR4.out.free 1
  have r2 := HR4.out.cell (i := 2) rfl
  have f2 := HR4.out.free 2
  have r3 := HR4.out.cell (i := 3) rfl
  have f3 := HR4.out.free 3
  have r4 := HR4.out.cell (i := 4) rfl
  have f4 := HR4.out.free 4
  have r5 := HR4.out.cell (i := 5) rfl
  have f5 := HR4.out.free 5
  have r6 := HR4.out.cell (i := 6) rfl
  have f6 := HR4.out.free 6
  have r7 := HR4.out.cell (i := 7) rfl
  have f7 := HR4.out.free 7
  go_wp2
  exact bodyPost_ret (v := .tuple #[.agg #[.int .i64 1, .int .i64 0, .int .i64 0, .int .i64 0, .int .i64 0, .int .i64 0, .int .i64 cn, .bool false], .nilIface]) (by simp [results, Tryz.results87, go_sem, *]) rfl ⟨rfl, v4, HS4.out.set8 hX4 _ _ _ _ _ _ _ _, HT4.out.set8 (Nat.le_succ _) _ _ _ _ _ _ _ _⟩
end Go.Proofs.YtlnghfmcofmkjaaGreatDoor

namespace Go.Proofs.YtlnghfmcofmkjaaGreatDoor
theorem tokE_at {e k o te key a t ad now li : Int} (hr : ringE e k o = 0) (hte : epB te = true) (hO : ringOfN e k o te = (key, 0)) (ha : inB a = true) (ht : tmB t = true) (h1 : inB ad = true) (h2 : tmB now = true) (h3 : tmB li = true) :
    tokE e k o te a t (tagOf key [1, a, t]) ad now li = if a ≠ ad then 7 else if now < t ∨ li < now - t then 9 else 0 := by
  have hR : tokR te a t (tagOf key [1, a, t]) = true := by simp [tokR, hte, ha, ht, inB_true.2 (tagOf_in key [1, a, t])]
  unfold tokE
  rw [if_neg (by simp [hr]), if_neg (by simp [hR, h1, h2, h3]), hO]
  simp
theorem tokE_late {e k o te key a t g ad now li x : Int} (hr : ringE e k o = 0) (hte : epB te = true) (hO : ringOfN e k o te = (x, 9)) (ha : inB a = true) (ht : tmB t = true) (hg : g = tagOf key [1, a, t]) (h1 : inB ad = true) (h2 : tmB now = true) (h3 : tmB li = true) :
    tokE e k o te a t g ad now li = 9 := by
  subst hg
  have hR : tokR te a t (tagOf key [1, a, t]) = true := by simp [tokR, hte, ha, ht, inB_true.2 (tagOf_in key [1, a, t])]
  unfold tokE
  rw [if_neg (by simp [hr]), if_neg (by simp [hR, h1, h2, h3]), hO]
  simp
theorem tokE_seal {e k o te key a t g ad now li : Int} (hr : ringE e k o = 0) (hte : epB te = true) (hO : ringOfN e k o te = (key, 0)) (ha : inB a = true) (ht : tmB t = true) (hg : inB g = true) (hn : g ≠ tagOf key [1, a, t]) (h1 : inB ad = true) (h2 : tmB now = true) (h3 : tmB li = true) :
    tokE e k o te a t g ad now li = 8 := by
  have hR : tokR te a t g = true := by simp [tokR, hte, ha, ht, hg]
  unfold tokE
  rw [if_neg (by simp [hr]), if_neg (by simp [hR, h1, h2, h3]), hO]
  simp [Ne.symm hn]
theorem tokE_range {e k o te a t g ad now li : Int} (hr : ringE e k o = 0) (h : (inB ad && tmB now && tmB li) = false) : tokE e k o te a t g ad now li = 1 := by
  unfold tokE
  rw [if_neg (by simp [hr]), if_pos (by rw [h]; rfl)]
theorem ringOfN_self (e k o : Int) : ringOfN e k o e = (k, 0) := by simp [ringOfN]
theorem ringOfN_elder (e k o : Int) : ringOfN (e + 1) k o e = (o, 0) := by
  unfold ringOfN; rw [if_neg (by omega), if_pos (by omega)]
theorem ringOfN_gone (e k o d : Int) (h : 2 ≤ d) : ringOfN (e + d) k o e = (0, 9) := by
  unfold ringOfN; rw [if_neg (by omega), if_neg (by omega), if_neg (by omega)]
end Go.Proofs.YtlnghfmcofmkjaaGreatDoor

namespace Go.Proofs.YtlnghfmcofmkjaaGreatDoor
open Go.RowKit

theorem ans_ok {e k o a t0 t1 t2 t3 u0 u1 u2 u3 : Int} {s : ByteArray} {wt now li n : Int} {b : Bool} (h : ansN e k o a t0 t1 t2 t3 u0 u1 u2 u3 s wt now li = (n, b, 0)) :
    ringE e k o = 0 ∧ inB a = true ∧ tmB now = true ∧ tmB li = true ∧ needsOf wt (rightB e k o t0 t1 t2 t3 a now li) (oldB e k o u0 u1 u2 u3 now) = (n, 0) ∧ b = earlyB n (oldB e k o u0 u1 u2 u3 now) s := by
  unfold ansN at h
  by_cases hr : ringE e k o = 0
  · rw [if_neg (by simp [hr])] at h
    cases hx : (inB a && tmB now && tmB li)
    · rw [if_pos hx] at h; simp at h
    · rw [if_neg (by simp [hx])] at h
      simp only [Bool.and_eq_true] at hx
      obtain ⟨nv, nc, hn⟩ : ∃ v c, needsOf wt (rightB e k o t0 t1 t2 t3 a now li) (oldB e k o u0 u1 u2 u3 now) = (v, c) := ⟨_, _, rfl⟩
      rw [hn] at h
      simp only at h
      by_cases hc : nc = 0
      · rw [if_neg (by simp [hc])] at h
        simp only [Prod.mk.injEq] at h
        exact ⟨hr, hx.1.1, hx.1.2, hx.2, by rw [hn, h.1, hc], by rw [← h.1]; exact h.2.1.symm⟩
      · rw [if_pos hc] at h
        simp only [Prod.mk.injEq] at h
        exact absurd h.2.2 hc
  · rw [if_pos hr] at h
    simp only [Prod.mk.injEq] at h
    exact absurd h.2.2 hr
theorem ans_mk {e k o a t0 t1 t2 t3 u0 u1 u2 u3 : Int} {s : ByteArray} {wt now li n : Int} (hr : ringE e k o = 0) (ha : inB a = true) (hn : tmB now = true) (hl : tmB li = true) (h : needsOf wt (rightB e k o t0 t1 t2 t3 a now li) (oldB e k o u0 u1 u2 u3 now) = (n, 0)) :
    ansN e k o a t0 t1 t2 t3 u0 u1 u2 u3 s wt now li = (n, earlyB n (oldB e k o u0 u1 u2 u3 now) s, 0) := by
  unfold ansN
  rw [if_neg (by simp [hr]), if_neg (by simp [ha, hn, hl]), h]
  simp
theorem needs_cases {n v : Int} {t o : Bool} (h : needsOf n t o = (v, 0)) : (n = 8 ∧ v = 2) ∨ (0 ≤ n ∧ n < 4 ∧ v = 1) ∨ (4 ≤ n ∧ n < 8 ∧ o = true ∧ v = 1) ∨ (4 ≤ n ∧ n < 8 ∧ o = false ∧ t = true ∧ v = 1) ∨ (4 ≤ n ∧ n < 8 ∧ o = false ∧ t = false ∧ v = 0) := by
  unfold needsOf at h
  by_cases h1 : n < 0 ∨ 8 < n
  · rw [if_pos h1] at h; simp at h
  · rw [if_neg h1] at h
    by_cases h2 : n = 8
    · rw [if_pos h2] at h; simp only [Prod.mk.injEq] at h; exact .inl ⟨h2, h.1.symm⟩
    · rw [if_neg h2] at h
      by_cases h3 : 4 ≤ n ∧ t = false ∧ o = false
      · rw [if_pos h3] at h; simp only [Prod.mk.injEq] at h
        exact .inr (.inr (.inr (.inr ⟨h3.1, by omega, h3.2.2, h3.2.1, h.1.symm⟩)))
      · rw [if_neg h3] at h; simp only [Prod.mk.injEq] at h
        by_cases h4 : n < 4
        · exact .inr (.inl ⟨by omega, h4, h.1.symm⟩)
        · cases o
          · cases t
            · exact absurd ⟨by omega, rfl, rfl⟩ h3
            · exact .inr (.inr (.inr (.inl ⟨by omega, by omega, rfl, rfl, h.1.symm⟩)))
          · exact .inr (.inr (.inl ⟨by omega, by omega, rfl, h.1.symm⟩))
theorem early_true {n : Int} {o : Bool} {s : ByteArray} (h : earlyB n o s = true) : n = 1 ∧ o = true ∧ 0 < s.size ∧ s.size ≤ 40 := by
  simp only [earlyB, Bool.and_eq_true, beq_iff_eq, decide_eq_true_eq] at h
  exact ⟨h.1.1, h.1.2, h.2.1, h.2.2⟩
end Go.Proofs.YtlnghfmcofmkjaaGreatDoor

namespace Go.Proofs.YtlnghfmcofmkjaaGreatDoor
theorem blkNext_cases (n m : Int) (h0 : 0 ≤ n) (h1 : n ≤ m) (h2 : m ≤ 1000) : (n = m ∧ 1000 < n + 8) ∨ ∃ n' m', blkNext n m = (n, 0, n', m') ∧ n < n' ∧ n' ≤ m' ∧ m' ≤ 1000 := by
  by_cases e : n = m
  · subst e
    by_cases g : 1000 < n + 8
    · exact .inl ⟨rfl, g⟩
    · exact .inr ⟨n + 1, n + 8, by simp [blkNext, g], by omega, by omega, by omega⟩
  · exact .inr ⟨n + 1, m, by simp [blkNext, e], by omega, by omega, h2⟩
end Go.Proofs.YtlnghfmcofmkjaaGreatDoor
