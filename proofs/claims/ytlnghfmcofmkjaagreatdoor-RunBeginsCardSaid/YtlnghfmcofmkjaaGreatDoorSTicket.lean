/- server: Ticket by contracts over the whole server. -/
import Derived.Test.YtlnghfmcofmkjaaGreatDoorRunBeginsProofM30
import Derived.Deep.RegionHeld3
namespace Go.Proofs.YtlnghfmcofmkjaaGreatDoor
open Go.RowKit

theorem SVst.set {F F' : List Nat} {w w' : World} (h : SVst F F' w w') {X : Nat} (hX : w.heap.size ≤ X) (i : Nat) (u : Value) : SVst F F' w (w'.setCell ⟨X, i, none⟩ u) := ⟨h.1.setCell (p := ⟨X, i, none⟩) (.inr hX) u, h.2⟩
theorem SV.set4 {w : World} {B b q bi bb bv : Nat} {e k o li cn : Int} {v v1 v2 : Value} {zs z1 z2 : List (Int × Int)} {n m many : Int} (h : SV w B b q bi bb bv e k o li cn v v1 v2 zs z1 z2 n m many) {X : Nat} (hX : X ∉ svF b q bi bb bv v v1 v2) (x0 x1 x2 x3 : Value) : SV ((((w.setCell ⟨X, 0, none⟩ x0).setCell ⟨X, 1, none⟩ x1).setCell ⟨X, 2, none⟩ x2).setCell ⟨X, 3, none⟩ x3) B b q bi bb bv e k o li cn v v1 v2 zs z1 z2 n m many :=
  (((h.set hX 0 x0).set hX 1 x1).set hX 2 x2).set hX 3 x3
theorem SVst.set4 {F F' : List Nat} {w w' : World} (h : SVst F F' w w') {X : Nat} (hX : w.heap.size ≤ X) (x0 x1 x2 x3 : Value) : SVst F F' w ((((w'.setCell ⟨X, 0, none⟩ x0).setCell ⟨X, 1, none⟩ x1).setCell ⟨X, 2, none⟩ x2).setCell ⟨X, 3, none⟩ x3) :=
  (((h.set hX 0 x0).set hX 1 x1).set hX 2 x2).set hX 3 x3
theorem st_keep {w2 : World} {b X : Nat} {c0 c1 c2 c5 : Value} (hn : b ≠ X) (K : w2.cell? ⟨b, 0, none⟩ = some c0 ∧ w2.cell? ⟨b, 1, none⟩ = some c1 ∧ w2.cell? ⟨b, 2, none⟩ = some c2 ∧ w2.cell? ⟨b, 5, none⟩ = some c5) (x0 x1 x2 x3 : Value) :
    ((((w2.setCell ⟨X, 0, none⟩ x0).setCell ⟨X, 1, none⟩ x1).setCell ⟨X, 2, none⟩ x2).setCell ⟨X, 3, none⟩ x3).cell? ⟨b, 0, none⟩ = some c0 ∧ ((((w2.setCell ⟨X, 0, none⟩ x0).setCell ⟨X, 1, none⟩ x1).setCell ⟨X, 2, none⟩ x2).setCell ⟨X, 3, none⟩ x3).cell? ⟨b, 1, none⟩ = some c1 ∧ ((((w2.setCell ⟨X, 0, none⟩ x0).setCell ⟨X, 1, none⟩ x1).setCell ⟨X, 2, none⟩ x2).setCell ⟨X, 3, none⟩ x3).cell? ⟨b, 2, none⟩ = some c2 ∧ ((((w2.setCell ⟨X, 0, none⟩ x0).setCell ⟨X, 1, none⟩ x1).setCell ⟨X, 2, none⟩ x2).setCell ⟨X, 3, none⟩ x3).cell? ⟨b, 5, none⟩ = some c5 := by
  have e : ∀ i, ((((w2.setCell ⟨X, 0, none⟩ x0).setCell ⟨X, 1, none⟩ x1).setCell ⟨X, 2, none⟩ x2).setCell ⟨X, 3, none⟩ x3).cell? ⟨b, i, none⟩ = w2.cell? ⟨b, i, none⟩ := fun i => by
    rw [World.cell?_setCell_far _ _ _ _ (fun h => hn h.symm), World.cell?_setCell_far _ _ _ _ (fun h => hn h.symm), World.cell?_setCell_far _ _ _ _ (fun h => hn h.symm), World.cell?_setCell_far _ _ _ _ (fun h => hn h.symm)]
  rw [e, e, e, e]
  exact K
theorem bel_set4 {B X : Nat} {a w : World} (h : Below B a w) (hX : B ≤ X) (x0 x1 x2 x3 : Value) : Below B a ((((w.setCell ⟨X, 0, none⟩ x0).setCell ⟨X, 1, none⟩ x1).setCell ⟨X, 2, none⟩ x2).setCell ⟨X, 3, none⟩ x3) :=
  (((h.setCell (p := ⟨X, 0, none⟩) hX x0).setCell (p := ⟨X, 1, none⟩) hX x1).setCell (p := ⟨X, 2, none⟩) hX x2).setCell (p := ⟨X, 3, none⟩) hX x3
set_option maxHeartbeats 4000000 in
theorem svTicket_bad {B b q bi bb bv : Nat} {e k o li cn : Int} {v v1 v2 : Value} {zs z1 z2 : List (Int × Int)} {n m many : Int} {u c : Int} (hc : tkmE e k o 0 u = c) (h0 : c ≠ 0) (w : World) (h : SV w B b q bi bb bv e k o li cn v v1 v2 zs z1 z2 n m many) :
    Calls Tryz.prog 89 #[.pointer (some ⟨b, 0, none⟩), .int .i64 u] w fun r w' => r = .returned (.tuple #[.agg #[.int .i64 0, .int .i64 0, .int .i64 0, .int .i64 0], errV c]) ∧ Below w.heap.size w w' := by
  have IC := hide (fun W => issue_bad bi e k o u c W hc h0)
  clear hc h0
  have HS := hide h
  have hbl := h.obj.lt
  have hF : w.heap.size ∉ svF b q bi bb bv v v1 v2 := fun hm => by have := (h.lt _ hm).2; omega
  obtain ⟨W1, hW1⟩ : ∃ W1, W1 = w.alloc (.cells #[.int .i64 0, .int .i64 0, .int .i64 0, .int .i64 0] 67) := ⟨_, rfl⟩
  have hA1 : Below w.heap.size w W1 := by rw [hW1]; exact (Below.refl _ _).alloc (Nat.le_refl _) _
  have HO1 : Hid (ObjAt W1 w.heap.size 67 [.int .i64 0, .int .i64 0, .int .i64 0, .int .i64 0]) := by rw [hW1]; exact ObjAt.new _ _ _
  have HS1 := hide (h.below hA1)
  have hz1 : w.heap.size < W1.heap.size := HO1.out.lt
  have HKS : Hid (∀ w' : World, Below W1.heap.size W1 w' → w'.cell? ⟨b, 0, none⟩ = some (.int .i64 e) ∧ w'.cell? ⟨b, 1, none⟩ = some (.int .i64 k) ∧ w'.cell? ⟨b, 2, none⟩ = some (.int .i64 o) ∧ w'.cell? ⟨b, 5, none⟩ = some (.pointer (some ⟨bi, 0, none⟩))) := fun w' hB => ⟨(HS1.out.below hB).obj.cell (i := 0) rfl, (HS1.out.below hB).obj.cell (i := 1) rfl, (HS1.out.below hB).obj.cell (i := 2) rfl, (HS1.out.below hB).obj.cell (i := 5) rfl⟩
  clear h HS
  go_enter Tryz.func89, Tryz.ntmps89
  go_upto_region 1 with (fail)
  rw [← hW1]
  clear hW1
  have hbX : b ≠ w.heap.size := Nat.ne_of_lt hbl
  have hrr := Below.refl W1.heap.size W1
  obtain ⟨mm0, mm1, mm2, mm3⟩ := HKS.out _ hrr
  go_region_held3 (fun w' => w'.cell? ⟨b, 0, none⟩ = some (.int .i64 e) ∧ w'.cell? ⟨b, 1, none⟩ = some (.int .i64 k) ∧ w'.cell? ⟨b, 2, none⟩ = some (.int .i64 o) ∧ w'.cell? ⟨b, 5, none⟩ = some (.pointer (some ⟨bi, 0, none⟩))) (first | with_reducible assumption | with_reducible (refine st_keep hbX ?_ _ _ _ _; assumption) | go_keep)
    (first | (go_at_call 108; refine (IC.out _).mono ?_; rintro e5 w2 ⟨rfl, hb2⟩; have hw2 : Below W1.heap.size W1 w2 := Below.trans (by go_grown) (Below.mono hb2 (by first | omega | (simp; done) | (simp; omega))); have KK := HKS.out _ hw2; have HO2 := hide (HO1.out.below hw2); have r0 := HO2.out.cell (i := 0) rfl; have r1 := HO2.out.cell (i := 1) rfl; have r2 := HO2.out.cell (i := 2) rfl; have r3 := HO2.out.cell (i := 3) rfl; have f0 := HO2.out.free 0; have f1 := HO2.out.free 1; have f2 := HO2.out.free 2; have f3 := HO2.out.free 3))
  have HB2 := hide (hA1.trans (hw2.mono hA1.size))
  clear hrr mm0 mm1 mm2 mm3 KK IC HKS HS1 HO1 hb2 hw2
  go_wp2
  exact bodyPost_ret (v := .tuple #[.agg #[.int .i64 0, .int .i64 0, .int .i64 0, .int .i64 0], errV c]) (by simp [results, Tryz.results89, go_sem, *]) rfl ⟨rfl, bel_set4 HB2.out (Nat.le_refl _) _ _ _ _⟩
set_option maxHeartbeats 4000000 in
theorem svTicket_ok {B b q bi bb bv : Nat} {e k o li cn : Int} {v v1 v2 : Value} {zs z1 z2 : List (Int × Int)} {n m many : Int} {u x n' m' : Int} (hr : ringE e k o = 0) (hu : tmB u = true) (h0 : 0 ≤ n) (h1 : n ≤ m) (h2 : m ≤ 1000) (hbn : blkNext n m = (x, 0, n', m')) (hm : 0 ≤ many ∧ many ≤ 100000) (w : World) (h : SV w B b q bi bb bv e k o li cn v v1 v2 zs z1 z2 n m many) :
    Calls Tryz.prog 89 #[.pointer (some ⟨b, 0, none⟩), .int .i64 u] w fun r w' => r = .returned (.tuple #[.agg #[.int .i64 e, .int .i64 x, .int .i64 u, .int .i64 (tagOf k [2, x, u])], .nilIface]) ∧ SV w' B b q bi bb bv e k o li cn v v1 v2 zs z1 z2 n' m' (many + 1) ∧ SVst (svF b q bi bb bv v v1 v2) (svF b q bi bb bv v v1 v2) w w' := by
  have IC := hide (fun W (hi : IssAt W bi bb n m many) => issue_ok bi bb e k o u n m x n' m' many W hi hr hu h0 h1 h2 hbn hm)
  clear hr hu h0 h1 h2 hbn hm
  generalize tagOf k [2, x, u] = tg at IC ⊢
  have HS := hide h
  have hbl := h.obj.lt
  have hF : w.heap.size ∉ svF b q bi bb bv v v1 v2 := fun hm => by have := (h.lt _ hm).2; omega
  obtain ⟨W1, hW1⟩ : ∃ W1, W1 = w.alloc (.cells #[.int .i64 0, .int .i64 0, .int .i64 0, .int .i64 0] 67) := ⟨_, rfl⟩
  have hA1 : Below w.heap.size w W1 := by rw [hW1]; exact (Below.refl _ _).alloc (Nat.le_refl _) _
  have HO1 : Hid (ObjAt W1 w.heap.size 67 [.int .i64 0, .int .i64 0, .int .i64 0, .int .i64 0]) := by rw [hW1]; exact ObjAt.new _ _ _
  have HS1 := hide (h.below hA1)
  have hz1 : w.heap.size < W1.heap.size := HO1.out.lt
  have HKS : Hid (∀ w' : World, Below W1.heap.size W1 w' → w'.cell? ⟨b, 0, none⟩ = some (.int .i64 e) ∧ w'.cell? ⟨b, 1, none⟩ = some (.int .i64 k) ∧ w'.cell? ⟨b, 2, none⟩ = some (.int .i64 o) ∧ w'.cell? ⟨b, 5, none⟩ = some (.pointer (some ⟨bi, 0, none⟩))) := fun w' hB => ⟨(HS1.out.below hB).obj.cell (i := 0) rfl, (HS1.out.below hB).obj.cell (i := 1) rfl, (HS1.out.below hB).obj.cell (i := 2) rfl, (HS1.out.below hB).obj.cell (i := 5) rfl⟩
  clear h HS
  go_enter Tryz.func89, Tryz.ntmps89
  go_upto_region 1 with (fail)
  rw [← hW1]
  clear hW1
  have hbX : b ≠ w.heap.size := Nat.ne_of_lt hbl
  have hrr := Below.refl W1.heap.size W1
  obtain ⟨mm0, mm1, mm2, mm3⟩ := HKS.out _ hrr
  go_region_held3 (fun w' => w'.cell? ⟨b, 0, none⟩ = some (.int .i64 e) ∧ w'.cell? ⟨b, 1, none⟩ = some (.int .i64 k) ∧ w'.cell? ⟨b, 2, none⟩ = some (.int .i64 o) ∧ w'.cell? ⟨b, 5, none⟩ = some (.pointer (some ⟨bi, 0, none⟩))) (first | with_reducible assumption | with_reducible (refine st_keep hbX ?_ _ _ _ _; assumption) | go_keep)
    (first | (go_at_call 108; refine (IC.out _ (HS1.out.below (by go_grown : Below W1.heap.size W1 _)).iss).mono ?_; rintro e5 w2 ⟨rfl, hi2, hk2⟩; have HQ2 := hide ((HS1.out.below (by go_grown : Below W1.heap.size W1 _)).stepi hi2 hk2); have HT2 := hide (SVst.pre (hA1.trans (Below.mono (by go_grown : Below W1.heap.size W1 _) hA1.size)) HQ2.out.2); have HO2 := hide (hk2.obj (HO1.out.below (by go_grown : Below W1.heap.size W1 _)) (fun hm => hF (mem_svF.2 (.inr (.inr (.inl (by simpa using hm))))))); have KK : w2.cell? ⟨b, 0, none⟩ = some (.int .i64 e) ∧ w2.cell? ⟨b, 1, none⟩ = some (.int .i64 k) ∧ w2.cell? ⟨b, 2, none⟩ = some (.int .i64 o) ∧ w2.cell? ⟨b, 5, none⟩ = some (.pointer (some ⟨bi, 0, none⟩)) := ⟨HQ2.out.1.obj.cell (i := 0) rfl, HQ2.out.1.obj.cell (i := 1) rfl, HQ2.out.1.obj.cell (i := 2) rfl, HQ2.out.1.obj.cell (i := 5) rfl⟩; have r0 := HO2.out.cell (i := 0) rfl; have r1 := HO2.out.cell (i := 1) rfl; have r2 := HO2.out.cell (i := 2) rfl; have r3 := HO2.out.cell (i := 3) rfl; have f0 := HO2.out.free 0; have f1 := HO2.out.free 1; have f2 := HO2.out.free 2; have f3 := HO2.out.free 3; clear hi2 hk2))
  clear hrr mm0 mm1 mm2 mm3 KK IC HKS HS1 HO1
  go_wp2
  exact bodyPost_ret (v := .tuple #[.agg #[.int .i64 e, .int .i64 x, .int .i64 u, .int .i64 tg], .nilIface]) (by simp [results, Tryz.results89, go_sem, *]) rfl ⟨rfl, HQ2.out.1.set4 hF _ _ _ _, HT2.out.set4 (Nat.le_refl _) _ _ _ _⟩
set_option maxHeartbeats 4000000 in
theorem svTicket_full {B b q bi bb bv : Nat} {e k o li cn : Int} {v v1 v2 : Value} {zs z1 z2 : List (Int × Int)} {n m many : Int} {u : Int} (hr : ringE e k o = 0) (hu : tmB u = true) (h0 : 0 ≤ n) (h1 : n ≤ 1000) (h2 : 1000 < n + 8) (hnm : n = m) (w : World) (h : SV w B b q bi bb bv e k o li cn v v1 v2 zs z1 z2 n m many) :
    Calls Tryz.prog 89 #[.pointer (some ⟨b, 0, none⟩), .int .i64 u] w fun r w' => r = .returned (.tuple #[.agg #[.int .i64 0, .int .i64 0, .int .i64 0, .int .i64 0], .iface 82 (.int .i64 4)]) ∧ SV w' B b q bi bb bv e k o li cn v v1 v2 zs z1 z2 n m many ∧ SVst (svF b q bi bb bv v v1 v2) (svF b q bi bb bv v v1 v2) w w' := by
  subst hnm
  have IC := hide (fun W (hi : IssAt W bi bb n n many) => issue_full bi bb e k o u n many W hi hr hu h0 h1 h2)
  clear hr hu h0 h1 h2
  have HS := hide h
  have hbl := h.obj.lt
  have hF : w.heap.size ∉ svF b q bi bb bv v v1 v2 := fun hm => by have := (h.lt _ hm).2; omega
  obtain ⟨W1, hW1⟩ : ∃ W1, W1 = w.alloc (.cells #[.int .i64 0, .int .i64 0, .int .i64 0, .int .i64 0] 67) := ⟨_, rfl⟩
  have hA1 : Below w.heap.size w W1 := by rw [hW1]; exact (Below.refl _ _).alloc (Nat.le_refl _) _
  have HO1 : Hid (ObjAt W1 w.heap.size 67 [.int .i64 0, .int .i64 0, .int .i64 0, .int .i64 0]) := by rw [hW1]; exact ObjAt.new _ _ _
  have HS1 := hide (h.below hA1)
  have hz1 : w.heap.size < W1.heap.size := HO1.out.lt
  have HKS : Hid (∀ w' : World, Below W1.heap.size W1 w' → w'.cell? ⟨b, 0, none⟩ = some (.int .i64 e) ∧ w'.cell? ⟨b, 1, none⟩ = some (.int .i64 k) ∧ w'.cell? ⟨b, 2, none⟩ = some (.int .i64 o) ∧ w'.cell? ⟨b, 5, none⟩ = some (.pointer (some ⟨bi, 0, none⟩))) := fun w' hB => ⟨(HS1.out.below hB).obj.cell (i := 0) rfl, (HS1.out.below hB).obj.cell (i := 1) rfl, (HS1.out.below hB).obj.cell (i := 2) rfl, (HS1.out.below hB).obj.cell (i := 5) rfl⟩
  clear h HS
  go_enter Tryz.func89, Tryz.ntmps89
  go_upto_region 1 with (fail)
  rw [← hW1]
  clear hW1
  have hbX : b ≠ w.heap.size := Nat.ne_of_lt hbl
  have hrr := Below.refl W1.heap.size W1
  obtain ⟨mm0, mm1, mm2, mm3⟩ := HKS.out _ hrr
  go_region_held3 (fun w' => w'.cell? ⟨b, 0, none⟩ = some (.int .i64 e) ∧ w'.cell? ⟨b, 1, none⟩ = some (.int .i64 k) ∧ w'.cell? ⟨b, 2, none⟩ = some (.int .i64 o) ∧ w'.cell? ⟨b, 5, none⟩ = some (.pointer (some ⟨bi, 0, none⟩))) (first | with_reducible assumption | with_reducible (refine st_keep hbX ?_ _ _ _ _; assumption) | go_keep)
    (first | (go_at_call 108; refine (IC.out _ (HS1.out.below (by go_grown : Below W1.heap.size W1 _)).iss).mono ?_; rintro e5 w2 ⟨rfl, hi2, hk2⟩; have HQ2 := hide ((HS1.out.below (by go_grown : Below W1.heap.size W1 _)).stepi hi2 hk2); have HT2 := hide (SVst.pre (hA1.trans (Below.mono (by go_grown : Below W1.heap.size W1 _) hA1.size)) HQ2.out.2); have HO2 := hide (hk2.obj (HO1.out.below (by go_grown : Below W1.heap.size W1 _)) (fun hm => hF (mem_svF.2 (.inr (.inr (.inl (by simpa using hm))))))); have KK : w2.cell? ⟨b, 0, none⟩ = some (.int .i64 e) ∧ w2.cell? ⟨b, 1, none⟩ = some (.int .i64 k) ∧ w2.cell? ⟨b, 2, none⟩ = some (.int .i64 o) ∧ w2.cell? ⟨b, 5, none⟩ = some (.pointer (some ⟨bi, 0, none⟩)) := ⟨HQ2.out.1.obj.cell (i := 0) rfl, HQ2.out.1.obj.cell (i := 1) rfl, HQ2.out.1.obj.cell (i := 2) rfl, HQ2.out.1.obj.cell (i := 5) rfl⟩; have r0 := HO2.out.cell (i := 0) rfl; have r1 := HO2.out.cell (i := 1) rfl; have r2 := HO2.out.cell (i := 2) rfl; have r3 := HO2.out.cell (i := 3) rfl; have f0 := HO2.out.free 0; have f1 := HO2.out.free 1; have f2 := HO2.out.free 2; have f3 := HO2.out.free 3; clear hi2 hk2))
  clear hrr mm0 mm1 mm2 mm3 KK IC HKS HS1 HO1
  go_wp2
  exact bodyPost_ret (v := .tuple #[.agg #[.int .i64 0, .int .i64 0, .int .i64 0, .int .i64 0], .iface 82 (.int .i64 4)]) (by simp [results, Tryz.results89, go_sem, *]) rfl ⟨rfl, HQ2.out.1.set4 hF _ _ _ _, HT2.out.set4 (Nat.le_refl _) _ _ _ _⟩
end Go.Proofs.YtlnghfmcofmkjaaGreatDoor
