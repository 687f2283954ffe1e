/- server: welcome, where no early bytes are to be taken, by contracts. -/
import Derived.Test.YtlnghfmcofmkjaaGreatDoorRunAnswersProofM13
import Derived.BigQuiet
import Derived.Deep.QuietTactic
import Derived.Deep.Cut
namespace Go.Proofs.YtlnghfmcofmkjaaGreatDoor
open Go.RowKit

/-- the fault of one that is welcome -/
def welE (zs : List (Int × Int)) (cn : Int) : Int := if cn = 4096 then 4 else offE zs 0 cn
theorem SQ.set {w : World} {b : Nat} {e k o li : Int} {q bi bv : Nat} {cn : Int} {v : Value} {zs : List (Int × Int)} (h : SQ w b e k o li q bi bv cn v zs) {X : Nat} (hX : X ≠ b ∧ X ≠ q ∧ v.ownBlock ≠ some X) (i : Nat) (u : Value) : SQ (w.setCell ⟨X, i, none⟩ u) b e k o li q bi bv cn v zs :=
  { h with
    obj := h.obj.setOther (a := ⟨X, i, none⟩) (Ne.symm hX.1) u
    que := ⟨h.que.1.setOther (a := ⟨X, i, none⟩) (Ne.symm hX.2.1) u, h.que.2.1.setOther (a := ⟨X, i, none⟩) (fun g hg e' => hX.2.2 (by rw [hg]; exact congrArg some e')) u, h.que.2.2⟩ }
theorem SQ.set8 {w : World} {b : Nat} {e k o li : Int} {q bi bv : Nat} {cn : Int} {v : Value} {zs : List (Int × Int)} (h : SQ w b e k o li q bi bv cn v zs) {X : Nat} (hX : X ≠ b ∧ X ≠ q ∧ v.ownBlock ≠ some X) (x0 x1 x2 x3 x4 x5 x6 x7 : Value) : SQ (((((((((w.setCell ⟨X, 0, none⟩ x0).setCell ⟨X, 1, none⟩ x1).setCell ⟨X, 2, none⟩ x2).setCell ⟨X, 3, none⟩ x3).setCell ⟨X, 4, none⟩ x4).setCell ⟨X, 5, none⟩ x5).setCell ⟨X, 6, none⟩ x6).setCell ⟨X, 7, none⟩ x7)) b e k o li q bi bv cn v zs :=
  (((((((h.set hX 0 x0).set hX 1 x1).set hX 2 x2).set hX 3 x3).set hX 4 x4).set hX 5 x5).set hX 6 x6).set hX 7 x7
theorem bel_set8 {B X : Nat} {a w : World} (h : Below B a w) (hX : B ≤ X) (x0 x1 x2 x3 x4 x5 x6 x7 : Value) : Below B a (((((((((w.setCell ⟨X, 0, none⟩ x0).setCell ⟨X, 1, none⟩ x1).setCell ⟨X, 2, none⟩ x2).setCell ⟨X, 3, none⟩ x3).setCell ⟨X, 4, none⟩ x4).setCell ⟨X, 5, none⟩ x5).setCell ⟨X, 6, none⟩ x6).setCell ⟨X, 7, none⟩ x7)) :=
  (((((((h.setCell (p := ⟨X, 0, none⟩) hX x0).setCell (p := ⟨X, 1, none⟩) hX x1).setCell (p := ⟨X, 2, none⟩) hX x2).setCell (p := ⟨X, 3, none⟩) hX x3).setCell (p := ⟨X, 4, none⟩) hX x4).setCell (p := ⟨X, 5, none⟩) hX x5).setCell (p := ⟨X, 6, none⟩) hX x6).setCell (p := ⟨X, 7, none⟩) hX x7
theorem kept_set8 {S : List Nat} {X : Nat} {a w : World} (h : Kept S a w) (hX : a.heap.size ≤ X) (x0 x1 x2 x3 x4 x5 x6 x7 : Value) : Kept S a (((((((((w.setCell ⟨X, 0, none⟩ x0).setCell ⟨X, 1, none⟩ x1).setCell ⟨X, 2, none⟩ x2).setCell ⟨X, 3, none⟩ x3).setCell ⟨X, 4, none⟩ x4).setCell ⟨X, 5, none⟩ x5).setCell ⟨X, 6, none⟩ x6).setCell ⟨X, 7, none⟩ x7)) :=
  (((((((h.setCell (p := ⟨X, 0, none⟩) (Or.inr hX) x0).setCell (p := ⟨X, 1, none⟩) (Or.inr hX) x1).setCell (p := ⟨X, 2, none⟩) (Or.inr hX) x2).setCell (p := ⟨X, 3, none⟩) (Or.inr hX) x3).setCell (p := ⟨X, 4, none⟩) (Or.inr hX) x4).setCell (p := ⟨X, 5, none⟩) (Or.inr hX) x5).setCell (p := ⟨X, 6, none⟩) (Or.inr hX) x6).setCell (p := ⟨X, 7, none⟩) (Or.inr hX) x7
/-- what a welcome leaves -/
def WelPost (w w' : World) (b : Nat) (e k o li : Int) (q bi bv : Nat) (cn : Int) (v : Value) (ns : List (Int × Int)) : Prop := ∃ v', SQ w' b e k o li q bi bv cn v' ns ∧ rowOf w v v' ∧ Kept (b :: qS q v) w w'
theorem WelPost.pre {w W w' : World} {b : Nat} {e k o li : Int} {q bi bv : Nat} {cn : Int} {v : Value} {ns : List (Int × Int)} (hW : Below w.heap.size w W) (h : WelPost W w' b e k o li q bi bv cn v ns) : WelPost w w' b e k o li q bi bv cn v ns := by
  obtain ⟨v', h1, h2, h3⟩ := h
  have := hW.size
  exact ⟨v', h1, h2.imp id (fun ⟨g, a, c⟩ => ⟨g, a, by omega⟩), (Kept.of_below hW _).trans h3⟩
/-- what holds behind the offer of a welcome -/
theorem wel_fin {w W1 : World} {b : Nat} {e k o li : Int} {q bi bv : Nat} {cn : Int} {v : Value} {zs : List (Int × Int)} {ns : List (Int × Int)} {cs ds : List Value} {T1 T2 : TypeId} (hb : b < w.heap.size) (hq : q < w.heap.size) (hvl : ∀ g, v.ownBlock = some g → g < w.heap.size) (hA : Below w.heap.size w W1) (hs : w.heap.size + 3 ≤ W1.heap.size) (hS : SQ W1 b e k o li q bi bv cn v zs) (hR : ObjAt W1 (w.heap.size + 1) T1 cs) (hC : ObjAt W1 (w.heap.size + 2) T2 ds) :
    ∀ (W w2 : World) (v2 : Value), Below W1.heap.size W1 W → QAt 110 w2 q v2 ns → rowOf W v v2 → Kept (qS q v) W w2 →
      SQ w2 b e k o li q bi bv cn v2 ns ∧ ObjAt w2 (w.heap.size + 1) T1 cs ∧ ObjAt w2 (w.heap.size + 2) T2 ds ∧ Kept (b :: qS q v) w w2 ∧ rowOf w v v2 ∧ v2.ownBlock ≠ some (w.heap.size + 1) ∧ v2.ownBlock ≠ some (w.heap.size + 2) := by
  intro W w2 v2 hW hq2 hr2 hk2
  have hz := hW.size
  have n1 : ∀ X, w.heap.size ≤ X → X ∉ qS q v := fun X hX hm => by
    rcases mem_qS.1 hm with e' | e'
    · omega
    · have := hvl _ e'; omega
  have n2 : b ∉ qS q v := fun hm => by
    rcases mem_qS.1 hm with e' | e'
    · exact hS.ne e'
    · exact hS.row e'
  have n3 : ∀ X, X < W.heap.size → v.ownBlock ≠ some X → v2.ownBlock ≠ some X := fun X hX hv' => by
    rcases hr2 with e' | ⟨g, e', hg⟩
    · rw [e']; exact hv'
    · rw [e']; intro e2; have := Option.some.inj e2; omega
  refine ⟨{ obj := hk2.obj (hS.below hW).obj n2, que := hq2, ne := hS.ne, row := n3 b (by omega) hS.row }, hk2.obj (hR.below hW) (n1 _ (by omega)), hk2.obj (hC.below hW) (n1 _ (by omega)), ?_, ?_, n3 _ (by omega) (fun e' => by have := hvl _ e'; omega), n3 _ (by omega) (fun e' => by have := hvl _ e'; omega)⟩
  · exact (Kept.of_below (hA.trans (hW.mono (by omega))) _).trans (hk2.mono (fun x hx => List.mem_cons_of_mem _ hx))
  · exact hr2.imp id (fun ⟨g, a, c⟩ => ⟨g, a, by omega⟩)
set_option maxRecDepth 100000 in
set_option maxHeartbeats 8000000 in
theorem sWel_bad {a t0 t1 t2 t3 u0 u1 u2 u3 : Int} {s : ByteArray} {now c : Int} {b : Nat} {e k o li : Int} {q bi bv : Nat} {cn : Int} {v : Value} {zs : List (Int × Int)} (hc : offE zs 0 cn = c) (h0 : c ≠ 0) (h8 : zs.length ≤ 8) (h4 : cn ≠ 4096) (w : World) (h : SQ w b e k o li q bi bv cn v zs) :
    Calls Tryz.prog 106 #[.pointer (some ⟨b, 0, none⟩), .agg #[.int .i64 a, .int .i64 t0, .int .i64 t1, .int .i64 t2, .int .i64 t3, .int .i64 u0, .int .i64 u1, .int .i64 u2, .int .i64 u3, .string s], .int .i64 now, .bool false] w fun r w' => r = .returned (.tuple #[.agg #[.int .i64 0, .int .i64 0, .int .i64 0, .int .i64 0, .int .i64 0, .int .i64 0, .int .i64 0, .bool false], errV c]) ∧ Below w.heap.size w w' := by
  have OF := hide (fun W (h : QAt 110 W q v zs) => qOffer_bad hc h0 h8 q v W h)
  have tc1 : (c != 0) = true := bne_iff_ne.2 h0
  clear hc h0
  have c4 := h.obj.cell (i := 4) rfl
  have c7 := h.obj.cell (i := 7) rfl
  have hbl := h.obj.lt
  have hql := h.que.1.lt
  have hvl : ∀ g, v.ownBlock = some g → g < w.heap.size := fun g hg => h.que.2.1.lt g hg
  have tcn : (cn == 4096) = false := beq_eq_false_iff_ne.2 h4
  have HSQ := hide h
  obtain ⟨W0, hW0⟩ : ∃ W0, W0 = ((w.alloc (.cells #[.int .i64 a, .int .i64 t0, .int .i64 t1, .int .i64 t2, .int .i64 t3, .int .i64 u0, .int .i64 u1, .int .i64 u2, .int .i64 u3, .string s] 69)).alloc (.cells #[.int .i64 0, .int .i64 0, .int .i64 0, .int .i64 0, .int .i64 0, .int .i64 0, .int .i64 0, .bool false] 101)) := ⟨_, rfl⟩
  have hA0 : Below w.heap.size w ((w.alloc (.cells #[.int .i64 a, .int .i64 t0, .int .i64 t1, .int .i64 t2, .int .i64 t3, .int .i64 u0, .int .i64 u1, .int .i64 u2, .int .i64 u3, .string s] 69)).alloc (.cells #[.int .i64 0, .int .i64 0, .int .i64 0, .int .i64 0, .int .i64 0, .int .i64 0, .int .i64 0, .bool false] 101)) := ((Below.refl _ _).alloc (Nat.le_refl _) _).alloc (by simp) _
  have hA1 : Below w.heap.size w (((w.alloc (.cells #[.int .i64 a, .int .i64 t0, .int .i64 t1, .int .i64 t2, .int .i64 t3, .int .i64 u0, .int .i64 u1, .int .i64 u2, .int .i64 u3, .string s] 69)).alloc (.cells #[.int .i64 0, .int .i64 0, .int .i64 0, .int .i64 0, .int .i64 0, .int .i64 0, .int .i64 0, .bool false] 101)).alloc (.cells #[.int .i64 0, .int .i64 cn] 74)) := hA0.alloc (by simp; omega) _
  have hoR : ObjAt (((w.alloc (.cells #[.int .i64 a, .int .i64 t0, .int .i64 t1, .int .i64 t2, .int .i64 t3, .int .i64 u0, .int .i64 u1, .int .i64 u2, .int .i64 u3, .string s] 69)).alloc (.cells #[.int .i64 0, .int .i64 0, .int .i64 0, .int .i64 0, .int .i64 0, .int .i64 0, .int .i64 0, .bool false] 101)).alloc (.cells #[.int .i64 0, .int .i64 cn] 74)) (w.heap.size + 1) 101 [.int .i64 0, .int .i64 0, .int .i64 0, .int .i64 0, .int .i64 0, .int .i64 0, .int .i64 0, .bool false] := (objNew (by simp)).alloc _
  have hoC : ObjAt (((w.alloc (.cells #[.int .i64 a, .int .i64 t0, .int .i64 t1, .int .i64 t2, .int .i64 t3, .int .i64 u0, .int .i64 u1, .int .i64 u2, .int .i64 u3, .string s] 69)).alloc (.cells #[.int .i64 0, .int .i64 0, .int .i64 0, .int .i64 0, .int .i64 0, .int .i64 0, .int .i64 0, .bool false] 101)).alloc (.cells #[.int .i64 0, .int .i64 cn] 74)) (w.heap.size + 2) 74 [.int .i64 0, .int .i64 cn] := objNew (by simp)
  have hS1 := h.below hA1
  obtain ⟨W1, hW1⟩ : ∃ W1, W1 = (((w.alloc (.cells #[.int .i64 a, .int .i64 t0, .int .i64 t1, .int .i64 t2, .int .i64 t3, .int .i64 u0, .int .i64 u1, .int .i64 u2, .int .i64 u3, .string s] 69)).alloc (.cells #[.int .i64 0, .int .i64 0, .int .i64 0, .int .i64 0, .int .i64 0, .int .i64 0, .int .i64 0, .bool false] 101)).alloc (.cells #[.int .i64 0, .int .i64 cn] 74)) := ⟨_, rfl⟩
  have hz1 : W1.heap.size = w.heap.size + 3 := by rw [hW1]; simp
  rw [← hW1] at hA1 hoR hoC hS1
  have HOR := hide hoR
  have HOC := hide hoC
  have HS1 := hide hS1
  have HKS : Hid (∀ w' : World, Below W1.heap.size W1 w' → w'.cell? ⟨b, 4, none⟩ = some (.pointer (some ⟨q, 0, none⟩)) ∧ w'.cell? ⟨w.heap.size + 2, 0, none⟩ = some (.int .i64 0) ∧ w'.cell? ⟨w.heap.size + 2, 1, none⟩ = some (.int .i64 cn)) :=
    fun w' hB => ⟨(HS1.out.below hB).obj.cell (i := 4) rfl, (HOC.out.below hB).cell (i := 0) rfl, (HOC.out.below hB).cell (i := 1) rfl⟩
  clear h h4 hoR hoC hS1 hA0 hW0 W0
  go_enter Tryz.func106, Tryz.ntmps106
  go_upto_region 4 with (fail)
  rw [← hW1]
  clear hW1 c4 c7
  have c4 := HS1.out.obj.cell (i := 4) rfl
  have hrr := Below.refl W1.heap.size W1
  obtain ⟨m4, m5, m6⟩ := HKS.out _ hrr
  go_region_held3 (fun w' => w'.cell? ⟨b, 4, none⟩ = some (.pointer (some ⟨q, 0, none⟩)) ∧ w'.cell? ⟨w.heap.size + 2, 0, none⟩ = some (.int .i64 0) ∧ w'.cell? ⟨w.heap.size + 2, 1, none⟩ = some (.int .i64 cn)) (first | assumption | trivial | exact HKS.out _ (by assumption) | (refine HKS.out _ ?_; go_grown) | go_keep)
    (first | (go_at_call 128; refine (OF.out _ (HS1.out.below (by go_grown : Below W1.heap.size W1 _)).que).mono ?_; rintro e5 w2 ⟨rfl, hb2⟩; have hw2 : Below W1.heap.size W1 w2 := Below.trans (by go_grown) (Below.mono hb2 (by first | omega | (simp; done) | (simp; omega))); have hs2 := hb2.size; (try simp at hs2); obtain ⟨c5, d5⟩ := bcell hb2))
  have HB2 := hide (hA1.trans (hw2.mono (by omega)))
  have HR2 := hide (HOR.out.below hw2)
  have r0 := HR2.out.cell (i := 0) rfl
  have r1 := HR2.out.cell (i := 1) rfl
  have r2 := HR2.out.cell (i := 2) rfl
  have r3 := HR2.out.cell (i := 3) rfl
  have r4 := HR2.out.cell (i := 4) rfl
  have r5 := HR2.out.cell (i := 5) rfl
  have r6 := HR2.out.cell (i := 6) rfl
  have r7 := HR2.out.cell (i := 7) rfl
  have f0 := HR2.out.free 0
  have f1 := HR2.out.free 1
  have f2 := HR2.out.free 2
  have f3 := HR2.out.free 3
  have f4 := HR2.out.free 4
  have f5 := HR2.out.free 5
  have f6 := HR2.out.free 6
  have f7 := HR2.out.free 7
  clear hb2 hw2 c5 d5 hrr OF HKS HS1 HOC c4 m4 m5 m6
  go_wp2
  exact bodyPost_ret (v := .tuple #[.agg #[.int .i64 0, .int .i64 0, .int .i64 0, .int .i64 0, .int .i64 0, .int .i64 0, .int .i64 0, .bool false], errV c]) (by simp [results, Tryz.results106, go_sem, *]) rfl ⟨rfl, bel_set8 HB2.out (Nat.le_succ _) _ _ _ _ _ _ _ _⟩
set_option maxRecDepth 100000 in
set_option maxHeartbeats 8000000 in
theorem sWel_ok {a t0 t1 t2 t3 u0 u1 u2 u3 : Int} {s : ByteArray} {now : Int} {b : Nat} {e k o li : Int} {q bi bv : Nat} {cn : Int} {v : Value} {zs : List (Int × Int)} {ns : List (Int × Int)} (hns : zs ++ [(0, cn)] = ns) (hc : offE zs 0 cn = 0) (hcn : 0 ≤ cn ∧ cn < 4096) (w : World) (h : SQ w b e k o li q bi bv cn v zs) :
    Calls Tryz.prog 106 #[.pointer (some ⟨b, 0, none⟩), .agg #[.int .i64 a, .int .i64 t0, .int .i64 t1, .int .i64 t2, .int .i64 t3, .int .i64 u0, .int .i64 u1, .int .i64 u2, .int .i64 u3, .string s], .int .i64 now, .bool false] w fun r w' => r = .returned (.tuple #[.agg #[.int .i64 1, .int .i64 0, .int .i64 0, .int .i64 0, .int .i64 0, .int .i64 0, .int .i64 cn, .bool false], .nilIface]) ∧ WelPost w w' b e k o li q bi bv (cn + 1) v ns := by
  have OF := hide (fun W (h : QAt 110 W q v zs) => qOffer_ok hns hc q v W h)
  have h4 : cn ≠ 4096 := by omega
  clear hc hns
  have c4 := h.obj.cell (i := 4) rfl
  have c7 := h.obj.cell (i := 7) rfl
  have hbl := h.obj.lt
  have hql := h.que.1.lt
  have hvl : ∀ g, v.ownBlock = some g → g < w.heap.size := fun g hg => h.que.2.1.lt g hg
  have tcn : (cn == 4096) = false := beq_eq_false_iff_ne.2 h4
  have HSQ := hide h
  obtain ⟨W0, hW0⟩ : ∃ W0, W0 = ((w.alloc (.cells #[.int .i64 a, .int .i64 t0, .int .i64 t1, .int .i64 t2, .int .i64 t3, .int .i64 u0, .int .i64 u1, .int .i64 u2, .int .i64 u3, .string s] 69)).alloc (.cells #[.int .i64 0, .int .i64 0, .int .i64 0, .int .i64 0, .int .i64 0, .int .i64 0, .int .i64 0, .bool false] 101)) := ⟨_, rfl⟩
  have hA0 : Below w.heap.size w ((w.alloc (.cells #[.int .i64 a, .int .i64 t0, .int .i64 t1, .int .i64 t2, .int .i64 t3, .int .i64 u0, .int .i64 u1, .int .i64 u2, .int .i64 u3, .string s] 69)).alloc (.cells #[.int .i64 0, .int .i64 0, .int .i64 0, .int .i64 0, .int .i64 0, .int .i64 0, .int .i64 0, .bool false] 101)) := ((Below.refl _ _).alloc (Nat.le_refl _) _).alloc (by simp) _
  have hA1 : Below w.heap.size w (((w.alloc (.cells #[.int .i64 a, .int .i64 t0, .int .i64 t1, .int .i64 t2, .int .i64 t3, .int .i64 u0, .int .i64 u1, .int .i64 u2, .int .i64 u3, .string s] 69)).alloc (.cells #[.int .i64 0, .int .i64 0, .int .i64 0, .int .i64 0, .int .i64 0, .int .i64 0, .int .i64 0, .bool false] 101)).alloc (.cells #[.int .i64 0, .int .i64 cn] 74)) := hA0.alloc (by simp; omega) _
  have hoR : ObjAt (((w.alloc (.cells #[.int .i64 a, .int .i64 t0, .int .i64 t1, .int .i64 t2, .int .i64 t3, .int .i64 u0, .int .i64 u1, .int .i64 u2, .int .i64 u3, .string s] 69)).alloc (.cells #[.int .i64 0, .int .i64 0, .int .i64 0, .int .i64 0, .int .i64 0, .int .i64 0, .int .i64 0, .bool false] 101)).alloc (.cells #[.int .i64 0, .int .i64 cn] 74)) (w.heap.size + 1) 101 [.int .i64 0, .int .i64 0, .int .i64 0, .int .i64 0, .int .i64 0, .int .i64 0, .int .i64 0, .bool false] := (objNew (by simp)).alloc _
  have hoC : ObjAt (((w.alloc (.cells #[.int .i64 a, .int .i64 t0, .int .i64 t1, .int .i64 t2, .int .i64 t3, .int .i64 u0, .int .i64 u1, .int .i64 u2, .int .i64 u3, .string s] 69)).alloc (.cells #[.int .i64 0, .int .i64 0, .int .i64 0, .int .i64 0, .int .i64 0, .int .i64 0, .int .i64 0, .bool false] 101)).alloc (.cells #[.int .i64 0, .int .i64 cn] 74)) (w.heap.size + 2) 74 [.int .i64 0, .int .i64 cn] := objNew (by simp)
  have hS1 := h.below hA1
  obtain ⟨W1, hW1⟩ : ∃ W1, W1 = (((w.alloc (.cells #[.int .i64 a, .int .i64 t0, .int .i64 t1, .int .i64 t2, .int .i64 t3, .int .i64 u0, .int .i64 u1, .int .i64 u2, .int .i64 u3, .string s] 69)).alloc (.cells #[.int .i64 0, .int .i64 0, .int .i64 0, .int .i64 0, .int .i64 0, .int .i64 0, .int .i64 0, .bool false] 101)).alloc (.cells #[.int .i64 0, .int .i64 cn] 74)) := ⟨_, rfl⟩
  have hz1 : W1.heap.size = w.heap.size + 3 := by rw [hW1]; simp
  rw [← hW1] at hA1 hoR hoC hS1
  have HOR := hide hoR
  have HOC := hide hoC
  have HS1 := hide hS1
  have HKS : Hid (∀ w' : World, Below W1.heap.size W1 w' → w'.cell? ⟨b, 4, none⟩ = some (.pointer (some ⟨q, 0, none⟩)) ∧ w'.cell? ⟨w.heap.size + 2, 0, none⟩ = some (.int .i64 0) ∧ w'.cell? ⟨w.heap.size + 2, 1, none⟩ = some (.int .i64 cn)) :=
    fun w' hB => ⟨(HS1.out.below hB).obj.cell (i := 4) rfl, (HOC.out.below hB).cell (i := 0) rfl, (HOC.out.below hB).cell (i := 1) rfl⟩
  clear h h4 hoR hoC hS1 hA0 hW0 W0
  go_enter Tryz.func106, Tryz.ntmps106
  go_upto_region 4 with (fail)
  rw [← hW1]
  clear hW1 c4 c7
  have c4 := HS1.out.obj.cell (i := 4) rfl
  have hrr := Below.refl W1.heap.size W1
  obtain ⟨m4, m5, m6⟩ := HKS.out _ hrr
  go_region_held3 (fun w' => w'.cell? ⟨b, 4, none⟩ = some (.pointer (some ⟨q, 0, none⟩)) ∧ w'.cell? ⟨w.heap.size + 2, 0, none⟩ = some (.int .i64 0) ∧ w'.cell? ⟨w.heap.size + 2, 1, none⟩ = some (.int .i64 cn)) (first | assumption | trivial | exact HKS.out _ (by assumption) | (refine HKS.out _ ?_; go_grown) | go_keep)
    (first | (go_at_call 128; refine (OF.out _ (HS1.out.below (by go_grown : Below W1.heap.size W1 _)).que).mono ?_; rintro e5 w2 ⟨rfl, v2, hq2, hr2, hk2⟩; have HF2 := hide (wel_fin (ns := ns) hbl hql hvl hA1 (by omega) HS1.out HOR.out HOC.out _ w2 v2 (by go_grown) hq2 hr2 hk2); have k4 := (HF2.out.1).obj.cell (i := 4) rfl; have k5 := (HF2.out.2.2.1).cell (i := 0) rfl; have k6 := (HF2.out.2.2.1).cell (i := 1) rfl; have KK : w2.cell? ⟨b, 4, none⟩ = some (.pointer (some ⟨q, 0, none⟩)) ∧ w2.cell? ⟨w.heap.size + 2, 0, none⟩ = some (.int .i64 0) ∧ w2.cell? ⟨w.heap.size + 2, 1, none⟩ = some (.int .i64 cn) := ⟨k4, k5, k6⟩; clear hq2 hr2 hk2))
  have s7 := HF2.out.1.obj.cell (i := 7) rfl
  have fr7 := HF2.out.1.obj.free 7
  have sz2 := HF2.out.2.2.2.1.size
  have hX1 := HF2.out.2.1.lt
  have hX2 := HF2.out.2.2.1.lt
  clear KK k4 k5 k6 hrr OF HKS HS1 HOC HOR c4 m4 m5 m6 HSQ
  go_upto_region 8 with (fail)
  obtain ⟨W3, hW3⟩ : ∃ W3, W3 = w2.setCell ⟨b, 7, none⟩ (.int .i64 (cn + 1)) := ⟨_, rfl⟩
  have HS3 : Hid (SQ W3 b e k o li q bi bv (cn + 1) v2 ns) := by
    rw [hW3]
    have g := HF2.out.1
    exact { obj := g.obj.set 7 _, que := ⟨g.que.1.setOther (a := ⟨b, 7, none⟩) (Ne.symm g.ne) _, g.que.2.1.setOther (a := ⟨b, 7, none⟩) (fun g' hg e' => g.row (by rw [hg]; exact congrArg some e')) _, g.que.2.2⟩, ne := g.ne, row := g.row }
  have HO3 : Hid (ObjAt W3 (w.heap.size + 1) 101 [.int .i64 0, .int .i64 0, .int .i64 0, .int .i64 0, .int .i64 0, .int .i64 0, .int .i64 0, .bool false]) := by rw [hW3]; exact HF2.out.2.1.setOther (a := ⟨b, 7, none⟩) (by show w.heap.size + 1 ≠ b; omega) _
  have HC3 : Hid (ObjAt W3 (w.heap.size + 2) 74 [.int .i64 0, .int .i64 cn]) := by rw [hW3]; exact HF2.out.2.2.1.setOther (a := ⟨b, 7, none⟩) (by show w.heap.size + 2 ≠ b; omega) _
  have HK3 : Hid (Kept (b :: qS q v) w W3) := by rw [hW3]; exact HF2.out.2.2.2.1.setCell (p := ⟨b, 7, none⟩) (Or.inl (List.mem_cons_self ..)) _
  rw [← hW3]
  have HR3 := hide HF2.out.2.2.2.2
  clear hW3 s7 fr7 HF2
  have c0 := HC3.out.cell (i := 0) rfl
  have c1 := HC3.out.cell (i := 1) rfl
  have r0 := HO3.out.cell (i := 0) rfl
  have f0 := HO3.out.free 0
  have r1 := HO3.out.cell (i := 1) rfl
  have f1 := HO3.out.free 1
  have r2 := HO3.out.cell (i := 2) rfl
  have f2 := HO3.out.free 2
  have r3 := HO3.out.cell (i := 3) rfl
  have f3 := HO3.out.free 3
  have r4 := HO3.out.cell (i := 4) rfl
  have f4 := HO3.out.free 4
  have r5 := HO3.out.cell (i := 5) rfl
  have f5 := HO3.out.free 5
  have r6 := HO3.out.cell (i := 6) rfl
  have f6 := HO3.out.free 6
  have r7 := HO3.out.cell (i := 7) rfl
  have f7 := HO3.out.free 7
  go_quiet (fail)
  go_wp2
  exact bodyPost_ret (v := .tuple #[.agg #[.int .i64 1, .int .i64 0, .int .i64 0, .int .i64 0, .int .i64 0, .int .i64 0, .int .i64 cn, .bool false], .nilIface]) (by simp [results, Tryz.results106, go_sem, *]) rfl ⟨rfl, v2, SQ.set8 (HS3.out.below (bel_drewN (Below.refl _ _) _)) ⟨by omega, by omega, HR3.out.2.1⟩ _ _ _ _ _ _ _ _, HR3.out.1, kept_set8 (HK3.out.drewN _) (Nat.le_succ _) _ _ _ _ _ _ _ _⟩
end Go.Proofs.YtlnghfmcofmkjaaGreatDoor
