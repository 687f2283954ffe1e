/- foldref2.Server: Hello by contracts, where one is welcome. -/
import Derived.Test.YtlnghfmcofmkjaaGreatDoorRSHello
import Derived.Test.YtlnghfmcofmkjaaGreatDoorRunAnswersProofM27
import Derived.Test.YtlnghfmcofmkjaaGreatDoorWelcomeE
namespace Go.Proofs.YtlnghfmcofmkjaaGreatDoor
open Go.RowKit

theorem RV.offer {w w' : World} {b : Nat} {e k o li n m cn : Int} {v v' vn vk : Value} {zs ns z1 z2 : List (Int × Int)} (h : RV w b e k o li n m cn v vn vk zs z1 z2) (hq : RQ (rvC e k o li n m cn vn vk) w' b v' ns) (hr : rowOf w v v') (hk : Kept (qS b v) w w') :
    RV w' b e k o li n m cn v' vn vk ns z1 z2 ∧ SVst (rvF b v vn vk) (rvF b v' vn vk) w w' := by
  have hz := hk.size
  have hin : ∀ g, v'.ownBlock = some g → v.ownBlock = some g ∨ w.heap.size ≤ g := fun g hg => by
    rcases hr with e' | ⟨g', e', h1⟩
    · exact .inl (e' ▸ hg)
    · rw [hg] at e'; have := Option.some.inj e'; exact .inr (by omega)
  refine ⟨{ q := hq, now := h.now.kept hk (fun x hx e' => ?_), kep := h.kep.kept hk (fun x hx e' => ?_), dn := fun g hg => ?_ }, ⟨hk.mono (fun x hx => ?_), fun x hx => ?_⟩⟩
  · obtain ⟨_, h2, h3⟩ := h.dn x (.inl e')
    rcases mem_qS.1 hx with e2 | e2
    · exact h2 e2
    · exact h3 e2
  · obtain ⟨_, h2, h3⟩ := h.dn x (.inr e')
    rcases mem_qS.1 hx with e2 | e2
    · exact h2 e2
    · exact h3 e2
  · obtain ⟨h1, h2, h3⟩ := h.dn g hg
    refine ⟨by omega, h2, fun e' => ?_⟩
    rcases hin g e' with e2 | e2
    · exact h3 e2
    · omega
  · rcases mem_qS.1 hx with e2 | e2
    · exact mem_rvF.2 (.inl e2)
    · exact mem_rvF.2 (.inr (.inl e2))
  · rcases mem_rvF.1 hx with rfl | e2 | e2
    · exact .inl (mem_rvF.2 (.inl rfl))
    · exact (hin x e2).imp (fun e3 => mem_rvF.2 (.inr (.inl e3))) id
    · exact .inl (mem_rvF.2 (.inr (.inr e2)))
theorem RV.spent {w w' : World} {b : Nat} {e k o li n m cn : Int} {v vn vk v' : Value} {zs z1 z2 ns : List (Int × Int)} (h : RV w b e k o li n m cn v vn vk zs z1 z2) (ho : ObjAt w' b 60 (rcells (rvC e k o li n m cn v' v') v)) (hp : PSl w' v' ns) (hn : ∀ g, v'.ownBlock = some g → g < w'.heap.size ∧ g ≠ b ∧ v.ownBlock ≠ some g) (hk : Kept [b] w w') :
    RV w' b e k o li n m cn v v' v' zs ns ns :=
  { q := ⟨ho, h.q.2.1.kept hk (fun g hg => by simp; exact fun e' => h.q.2.2 (e' ▸ hg)), h.q.2.2⟩, now := hp, kep := hp, dn := fun g hg => hn g (hg.elim id id) }
theorem rs_spst {w w7 W8 : World} {b z : Nat} {F : List Nat} {v v' vn vk : Value} (h : SVst F (rvF b v vn vk) w w7) (hb : b ∈ F) (hz : w.heap.size ≤ z) (hn : ∀ g, v'.ownBlock = some g → z ≤ g) (hk : Kept [b] w7 W8) : SVst F (rvF b v v' v') w W8 :=
  ⟨h.1.step hk (fun x hx => by simp at hx; rw [hx]; exact .inl hb), fun x hx => by
    rcases mem_rvF.1 hx with rfl | e' | e'
    · exact .inl hb
    · exact h.2 x (mem_rvF.2 (.inr (.inl e')))
    · exact .inr (Nat.le_trans hz (hn x (e'.elim id id)))⟩
theorem rs_rowlt {w0 w4 W : World} {v v5 : Value} (hl : ∀ g, v.ownBlock = some g → g < w0.heap.size) (hr : rowOf W v v5) (hs : w4.heap.size ≤ W.heap.size) : ∀ g, v5.ownBlock = some g → g < w0.heap.size ∨ w4.heap.size ≤ g := fun g hg => by
  rcases hr with e' | ⟨g', e', h1⟩
  · exact .inl (hl g (e' ▸ hg))
  · rw [hg] at e'; have := Option.some.inj e'; exact .inr (by omega)
/-- a cell of a block that is not the server's -/
theorem RV.set {w : World} {b : Nat} {e k o li n m cn : Int} {v vn vk : Value} {zs z1 z2 : List (Int × Int)} (h : RV w b e k o li n m cn v vn vk zs z1 z2) {X : Nat} (hX : X ∉ rvF b v vn vk) (i : Nat) (u : Value) : RV (w.setCell ⟨X, i, none⟩ u) b e k o li n m cn v vn vk zs z1 z2 :=
  h.kept ((Kept.refl [X] w).setCell (p := ⟨X, i, none⟩) (.inl (by simp)) u) (fun x hx hm => by simp at hm; exact hX (hm ▸ hx))
theorem RV.set8 {w : World} {b : Nat} {e k o li n m cn : Int} {v vn vk : Value} {zs z1 z2 : List (Int × Int)} (h : RV w b e k o li n m cn v vn vk zs z1 z2) {X : Nat} (hX : X ∉ rvF b v vn vk) (x0 x1 x2 x3 x4 x5 x6 x7 : Value) : RV (((((((((w.setCell ⟨X, 0, none⟩ x0).setCell ⟨X, 1, none⟩ x1).setCell ⟨X, 2, none⟩ x2).setCell ⟨X, 3, none⟩ x3).setCell ⟨X, 4, none⟩ x4).setCell ⟨X, 5, none⟩ x5).setCell ⟨X, 6, none⟩ x6).setCell ⟨X, 7, none⟩ x7)) b e k o li n m cn v vn vk zs z1 z2 :=
  (((((((h.set hX 0 x0).set hX 1 x1).set hX 2 x2).set hX 3 x3).set hX 4 x4).set hX 5 x5).set hX 6 x6).set hX 7 x7
set_option maxRecDepth 100000 in
set_option maxHeartbeats 8000000 in
theorem rsHello_wok {a t0 t1 t2 t3 u0 u1 u2 u3 : Int} {s : ByteArray} {now : Int} {b : Nat} {e k o li n m cn : Int} {v vn vk : Value} {zs z1 z2 : List (Int × Int)} {ns : List (Int × Int)} (hsz : s.size ≤ 9223372036854775807) (hA : ansN e k o a t0 t1 t2 t3 u0 u1 u2 u3 s (zs.length : Int) now li = (1, false, 0)) (hns : zs ++ [(0, cn)] = ns) (hc : offE zs 0 cn = 0) (hcn : 0 ≤ cn ∧ cn < 4096) (w : World) (h : RV w b e k o li n m cn v vn vk zs z1 z2) :
    Calls Tryz.prog 39 #[.pointer (some ⟨b, 0, none⟩), .agg #[.int .i64 a, .int .i64 t0, .int .i64 t1, .int .i64 t2, .int .i64 t3, .int .i64 u0, .int .i64 u1, .int .i64 u2, .int .i64 u3, .string s], .int .i64 now] w fun r w' => r = .returned (.tuple #[.agg #[.int .i64 1, .int .i64 0, .int .i64 0, .int .i64 0, .int .i64 0, .int .i64 0, .int .i64 cn, .bool false], .int .i64 0]) ∧ ∃ v', RV w' b e k o li n m (cn + 1) v' vn vk ns z1 z2 ∧ SVst (rvF b v vn vk) (rvF b v' vn vk) w w' := by
  have OF := hide (fun W (hq : RQ (rvC e k o li n m (cn + 1) vn vk) W b v zs) => rsOffer_ok hns hc b v W hq)
  clear hns hc
  have hbl := h.q.1.lt
  obtain ⟨av, cv, rfl⟩ := qrow_form h.q.2.1
  have hzl : zs.length ≤ 900 := h.q.2.1.1
  have hFl := h.lt
  have JA := hide (fun W => rAnswer (wt := (zs.length : Int)) hsz hA W)
  have hA1 : Below w.heap.size w ((w.alloc (.cells #[.int .i64 a, .int .i64 t0, .int .i64 t1, .int .i64 t2, .int .i64 t3, .int .i64 u0, .int .i64 u1, .int .i64 u2, .int .i64 u3, .string s] 69)).alloc (.cells #[.int .i64 0, .int .i64 0, .int .i64 0, .int .i64 0, .int .i64 0, .int .i64 0, .int .i64 0, .bool false] 101)) := ((Below.refl _ _).alloc (Nat.le_refl _) _).alloc (by simp) _
  have hoH : ObjAt ((w.alloc (.cells #[.int .i64 a, .int .i64 t0, .int .i64 t1, .int .i64 t2, .int .i64 t3, .int .i64 u0, .int .i64 u1, .int .i64 u2, .int .i64 u3, .string s] 69)).alloc (.cells #[.int .i64 0, .int .i64 0, .int .i64 0, .int .i64 0, .int .i64 0, .int .i64 0, .int .i64 0, .bool false] 101)) w.heap.size 69 [.int .i64 a, .int .i64 t0, .int .i64 t1, .int .i64 t2, .int .i64 t3, .int .i64 u0, .int .i64 u1, .int .i64 u2, .int .i64 u3, .string s] := (ObjAt.new _ _ _).alloc _
  have hoR : ObjAt ((w.alloc (.cells #[.int .i64 a, .int .i64 t0, .int .i64 t1, .int .i64 t2, .int .i64 t3, .int .i64 u0, .int .i64 u1, .int .i64 u2, .int .i64 u3, .string s] 69)).alloc (.cells #[.int .i64 0, .int .i64 0, .int .i64 0, .int .i64 0, .int .i64 0, .int .i64 0, .int .i64 0, .bool false] 101)) (w.heap.size + 1) 101 [.int .i64 0, .int .i64 0, .int .i64 0, .int .i64 0, .int .i64 0, .int .i64 0, .int .i64 0, .bool false] := objNew (by simp)
  have hV1 := h.below hA1
  obtain ⟨W1, hW1⟩ : ∃ W1, W1 = ((w.alloc (.cells #[.int .i64 a, .int .i64 t0, .int .i64 t1, .int .i64 t2, .int .i64 t3, .int .i64 u0, .int .i64 u1, .int .i64 u2, .int .i64 u3, .string s] 69)).alloc (.cells #[.int .i64 0, .int .i64 0, .int .i64 0, .int .i64 0, .int .i64 0, .int .i64 0, .int .i64 0, .bool false] 101)) := ⟨_, rfl⟩
  have hz1 : W1.heap.size = w.heap.size + 2 := by rw [hW1]; simp
  rw [← hW1] at hA1 hoH hoR hV1
  have HOR := hide hoR
  have HOH := hide hoH
  have HV1 := hide hV1
  have HKS : Hid (∀ w' : World, Below W1.heap.size W1 w' → w'.cell? ⟨b, 0, none⟩ = some (.int .i64 e) ∧ w'.cell? ⟨b, 1, none⟩ = some (.int .i64 k) ∧ w'.cell? ⟨b, 2, none⟩ = some (.int .i64 o) ∧ w'.cell? ⟨b, 3, none⟩ = some (.int .i64 li) ∧ w'.cell? ⟨b, 4, none⟩ = some (.slice av zs.length cv) ∧ w'.cell? ⟨w.heap.size, 0, none⟩ = some (.int .i64 a) ∧ w'.cell? ⟨w.heap.size, 1, none⟩ = some (.int .i64 t0) ∧ w'.cell? ⟨w.heap.size, 2, none⟩ = some (.int .i64 t1) ∧ w'.cell? ⟨w.heap.size, 3, none⟩ = some (.int .i64 t2) ∧ w'.cell? ⟨w.heap.size, 4, none⟩ = some (.int .i64 t3) ∧ w'.cell? ⟨w.heap.size, 5, none⟩ = some (.int .i64 u0) ∧ w'.cell? ⟨w.heap.size, 6, none⟩ = some (.int .i64 u1) ∧ w'.cell? ⟨w.heap.size, 7, none⟩ = some (.int .i64 u2) ∧ w'.cell? ⟨w.heap.size, 8, none⟩ = some (.int .i64 u3) ∧ w'.cell? ⟨w.heap.size, 9, none⟩ = some (.string s)) := fun w' hB => ⟨(HV1.out.below hB).q.1.cell (i := 0) rfl, (HV1.out.below hB).q.1.cell (i := 1) rfl, (HV1.out.below hB).q.1.cell (i := 2) rfl, (HV1.out.below hB).q.1.cell (i := 3) rfl, (HV1.out.below hB).q.1.cell (i := 4) rfl, (HOH.out.below hB).cell (i := 0) rfl, (HOH.out.below hB).cell (i := 1) rfl, (HOH.out.below hB).cell (i := 2) rfl, (HOH.out.below hB).cell (i := 3) rfl, (HOH.out.below hB).cell (i := 4) rfl, (HOH.out.below hB).cell (i := 5) rfl, (HOH.out.below hB).cell (i := 6) rfl, (HOH.out.below hB).cell (i := 7) rfl, (HOH.out.below hB).cell (i := 8) rfl, (HOH.out.below hB).cell (i := 9) rfl⟩
  have HV0 := hide h
  clear h hoH hoR hV1 hA hsz
  go_enter Tryz.func39, Tryz.ntmps39
  go_upto_region 1 with (fail)
  rw [← hW1]
  clear hW1
  have hrr := Below.refl W1.heap.size W1
  obtain ⟨mm0, mm1, mm2, mm3, mm4, mm5, mm6, mm7, mm8, mm9, mm10, mm11, mm12, mm13, mm14⟩ := HKS.out _ hrr
  go_region_held3 (fun w' => w'.cell? ⟨b, 0, none⟩ = some (.int .i64 e) ∧ w'.cell? ⟨b, 1, none⟩ = some (.int .i64 k) ∧ w'.cell? ⟨b, 2, none⟩ = some (.int .i64 o) ∧ w'.cell? ⟨b, 3, none⟩ = some (.int .i64 li) ∧ w'.cell? ⟨b, 4, none⟩ = some (.slice av zs.length cv) ∧ w'.cell? ⟨w.heap.size, 0, none⟩ = some (.int .i64 a) ∧ w'.cell? ⟨w.heap.size, 1, none⟩ = some (.int .i64 t0) ∧ w'.cell? ⟨w.heap.size, 2, none⟩ = some (.int .i64 t1) ∧ w'.cell? ⟨w.heap.size, 3, none⟩ = some (.int .i64 t2) ∧ w'.cell? ⟨w.heap.size, 4, none⟩ = some (.int .i64 t3) ∧ w'.cell? ⟨w.heap.size, 5, none⟩ = some (.int .i64 u0) ∧ w'.cell? ⟨w.heap.size, 6, none⟩ = some (.int .i64 u1) ∧ w'.cell? ⟨w.heap.size, 7, none⟩ = some (.int .i64 u2) ∧ w'.cell? ⟨w.heap.size, 8, none⟩ = some (.int .i64 u3) ∧ w'.cell? ⟨w.heap.size, 9, none⟩ = some (.string s)) (first | exact HKS.out _ (by assumption) | (refine HKS.out _ ?_; go_grown) | go_keep)
    (first | (go_at_call 56; refine (JA.out _).mono ?_; rintro e6 w3 ⟨rfl, hb3⟩; have hw3 : Below W1.heap.size W1 w3 := Below.trans (by go_grown) (Below.mono hb3 (by first | omega | (simp; done) | (simp; omega))); have hs3 := hw3.size; obtain ⟨c3, d3⟩ := bcell hb3))
  have HB3 := hide (hA1.trans (hw3.mono (by omega)))
  have HV3 := hide (HV1.out.below hw3)
  have HR3 := hide (HOR.out.below hw3)
  have HH3 := hide (HOH.out.below hw3)
  clear hb3 hw3 c3 d3 hrr JA HV1 HOR HOH mm0 mm1 mm2 mm3 mm4 mm5 mm6 mm7 mm8 mm9 mm10 mm11 mm12 mm13 mm14
  have c9 : w3.cell? ⟨b, 9, none⟩ = some (.int .i64 cn) := HV3.out.q.1.cell (i := 9) rfl
  have f9 := HV3.out.q.1.free 9
  have hb3 : b < w3.heap.size := HV3.out.q.1.lt
  have hB3z := HB3.out.size
  obtain ⟨W4, hW4⟩ : ∃ W4, W4 = ((w3.setCell ⟨b, 9, none⟩ (.int .i64 (cn + 1))).alloc (.cells #[.int .i64 0, .int .i64 cn] 74)) := ⟨_, rfl⟩
  have hV4 : RV W4 b e k o li n m (cn + 1) (.slice av zs.length cv) vn vk zs z1 z2 ∧ SVst (rvF b (.slice av zs.length cv) vn vk) (rvF b (.slice av zs.length cv) vn vk) w3 W4 := by
    rw [hW4]; exact HV3.out.own ((HV3.out.q.1.set 9 _).alloc _) (((Kept.refl _ _).setCell (.inl (by simp)) _).alloc _) (.inl ⟨rfl, rfl⟩) (.inl ⟨rfl, rfl⟩) ⟨rfl, rfl⟩
  have hC4 : ObjAt W4 w3.heap.size 74 [.int .i64 0, .int .i64 cn] := by rw [hW4]; exact objNew (by simp)
  have HR4 : Hid (ObjAt W4 (w.heap.size + 1) 101 [.int .i64 0, .int .i64 0, .int .i64 0, .int .i64 0, .int .i64 0, .int .i64 0, .int .i64 0, .bool false]) := by rw [hW4]; exact (HR3.out.setOther (a := ⟨b, 9, none⟩) (by show w.heap.size + 1 ≠ b; omega) _).alloc _
  have HH4 : Hid (ObjAt W4 w.heap.size 69 [.int .i64 a, .int .i64 t0, .int .i64 t1, .int .i64 t2, .int .i64 t3, .int .i64 u0, .int .i64 u1, .int .i64 u2, .int .i64 u3, .string s]) := by rw [hW4]; exact (HH3.out.setOther (a := ⟨b, 9, none⟩) (by show w.heap.size ≠ b; omega) _).alloc _
  have HV4 := hide hV4.1
  have HT4 := hide ((SVst.of_below HB3.out).trans hV4.2)
  have HC4 := hide hC4
  have hz4 : W4.heap.size = w3.heap.size + 1 := by rw [hW4]; simp
  clear hV4 HKS hC4
  go_upto_region 13 with (fail)
  rw [← hW4]
  clear hW4 c9 f9
  have HKC : Hid (∀ w' : World, Below W4.heap.size W4 w' → w'.cell? ⟨w3.heap.size, 0, none⟩ = some (.int .i64 0) ∧ w'.cell? ⟨w3.heap.size, 1, none⟩ = some (.int .i64 cn)) := fun w' hB => ⟨(HC4.out.below hB).cell (i := 0) rfl, (HC4.out.below hB).cell (i := 1) rfl⟩
  have hrr := Below.refl W4.heap.size W4
  obtain ⟨k0, k1⟩ := HKC.out _ hrr
  have nqS : ∀ x, w.heap.size ≤ x → x ∉ qS b (.slice av zs.length cv) := fun x hx hm => by
    rcases mem_qS.1 hm with e' | e'
    · omega
    · have := hFl x (mem_rvF.2 (.inr (.inl e'))); omega
  go_region_held3 (fun w' => w'.cell? ⟨w3.heap.size, 0, none⟩ = some (.int .i64 0) ∧ w'.cell? ⟨w3.heap.size, 1, none⟩ = some (.int .i64 cn)) (first | with_reducible assumption | exact HKC.out _ (by assumption) | (refine HKC.out _ ?_; go_grown) | go_keep)
    (first | (go_at_call 57; refine (OF.out _ (HV4.out.below (by go_grown : Below W4.heap.size W4 _)).q).mono ?_; rintro e5 w5 ⟨rfl, v5, hq5, hr5, hk5⟩; have HV5 := hide ((HV4.out.below (by go_grown : Below W4.heap.size W4 _)).offer hq5 hr5 hk5); have HT5 := hide (HT4.out.trans (SVst.pre (by go_grown : Below W4.heap.size W4 _) HV5.out.2)); have HQN := hide (rs_rowlt (w0 := w) (w4 := W4) (fun g hg => hFl g (mem_rvF.2 (.inr (.inl hg)))) hr5 (Below.size (by go_grown : Below W4.heap.size W4 _))); have HR5 := hide (hk5.obj (HR4.out.below (by go_grown : Below W4.heap.size W4 _)) (nqS _ (by omega))); have HH5 := hide (hk5.obj (HH4.out.below (by go_grown : Below W4.heap.size W4 _)) (nqS _ (Nat.le_refl _))); have HC5 := hide (hk5.obj (HC4.out.below (by go_grown : Below W4.heap.size W4 _)) (nqS _ hB3z)); have KK : w5.cell? ⟨w3.heap.size, 0, none⟩ = some (.int .i64 0) ∧ w5.cell? ⟨w3.heap.size, 1, none⟩ = some (.int .i64 cn) := ⟨HC5.out.cell (i := 0) rfl, HC5.out.cell (i := 1) rfl⟩; have hz5 : W4.heap.size ≤ w5.heap.size := Nat.le_trans (Below.size (by go_grown : Below W4.heap.size W4 _)) hk5.size; clear hq5 hr5 hk5))
  clear hrr k0 k1 HKC HV4 HT4 HR4 HH4 HC4 OF HV3 HR3 HH3
  have g0 := HC5.out.cell (i := 0) rfl
  have g1 := HC5.out.cell (i := 1) rfl
  obtain ⟨W6, hW6⟩ : ∃ W6, W6 = w5.alloc (.cells #[.int .i64 1, .int .i64 0, .int .i64 0, .int .i64 0, .int .i64 0, .int .i64 0, .int .i64 cn, .bool false] 101) := ⟨_, rfl⟩
  have hA6 : Below w5.heap.size w5 W6 := by rw [hW6]; exact (Below.refl _ _).alloc (Nat.le_refl _) _
  have HA6 : Hid (ObjAt W6 w5.heap.size 101 [.int .i64 1, .int .i64 0, .int .i64 0, .int .i64 0, .int .i64 0, .int .i64 0, .int .i64 cn, .bool false]) := by rw [hW6]; exact ObjAt.new _ _ _
  have HV6 := hide (HV5.out.1.below hA6)
  have HT6 := hide (HT5.out.post hA6)
  have HL5 := hide HV5.out.1.lt
  have HR6 := hide (HR5.out.below hA6)
  have HH6 := hide (HH5.out.below hA6)
  have hz6 : w5.heap.size < W6.heap.size := HA6.out.lt
  have hF6 : w.heap.size + 1 ∉ rvF b v5 vn vk := fun hm => by
    rcases mem_rvF.1 hm with e' | e' | e'
    · omega
    · have := HQN.out _ e'; omega
    · have := hFl _ (mem_rvF.2 (.inr (.inr e'))); omega
  clear KK HV5 HT5 HR5 HH5 HC5 hA6
  go_upto_region 15 with (fail)
  rw [← hW6]
  clear hW6 g0 g1
  have q0 := HA6.out.cell (i := 0) rfl
  have q1 := HA6.out.cell (i := 1) rfl
  have q2 := HA6.out.cell (i := 2) rfl
  have q3 := HA6.out.cell (i := 3) rfl
  have q4 := HA6.out.cell (i := 4) rfl
  have q5 := HA6.out.cell (i := 5) rfl
  have q6 := HA6.out.cell (i := 6) rfl
  have q7 := HA6.out.cell (i := 7) rfl
  have r0 := HR6.out.cell (i := 0) rfl
  have f0 := HR6.out.free 0
  have r1 := HR6.out.cell (i := 1) rfl
  have f1 := HR6.out.free 1
  have r2 := HR6.out.cell (i := 2) rfl
  have f2 := HR6.out.free 2
  have r3 := HR6.out.cell (i := 3) rfl
  have f3 := HR6.out.free 3
  have r4 := HR6.out.cell (i := 4) rfl
  have f4 := HR6.out.free 4
  have r5 := HR6.out.cell (i := 5) rfl
  have f5 := HR6.out.free 5
  have r6 := HR6.out.cell (i := 6) rfl
  have f6 := HR6.out.free 6
  have r7 := HR6.out.cell (i := 7) rfl
  have f7 := HR6.out.free 7
  go_wp2
  exact bodyPost_ret (v := .tuple #[.agg #[.int .i64 1, .int .i64 0, .int .i64 0, .int .i64 0, .int .i64 0, .int .i64 0, .int .i64 cn, .bool false], .int .i64 0]) (by simp [results, Tryz.results39, go_sem, *]) rfl ⟨rfl, _, HV6.out.set8 hF6 _ _ _ _ _ _ _ _, SVst.set8 HT6.out (Nat.le_succ _) _ _ _ _ _ _ _ _⟩
end Go.Proofs.YtlnghfmcofmkjaaGreatDoor
