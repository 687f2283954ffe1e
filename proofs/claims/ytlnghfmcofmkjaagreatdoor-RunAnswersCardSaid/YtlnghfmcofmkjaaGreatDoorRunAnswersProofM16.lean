/- foldref2.Server: the blocks' Next, and Ticket by contracts. judge: old, Old by contracts. -/
import Derived.Test.YtlnghfmcofmkjaaGreatDoorRunAnswersProofM15
import Derived.Deep.RegionHeld3
import Derived.Deep.Cut
import Derived.Test.YtlnghfmcofmkjaaGreatDoorTicketC
namespace Go.Proofs.YtlnghfmcofmkjaaGreatDoor
open Go.RowKit

theorem rsNext_full {b : Nat} {e k o li n cn : Int} {v vn vk : Value} (w : World) (h : ObjAt w b 60 (rcells (rvC e k o li n n cn vn vk) v)) (g : n + 8 > 1000) (h2 : n ≤ 1000) :
    Calls Tryz.prog 41 #[.pointer (some ⟨b, 5, none⟩)] w fun e w' => e = .returned (.tuple #[.int .i64 0, .int .i64 4]) ∧ Below w.heap.size w w' := by
  have c5 : w.cell? ⟨b, 5, none⟩ = some (.int .i64 n) := h.cell (i := 5) rfl
  have c6 : w.cell? ⟨b, 6, none⟩ = some (.int .i64 n) := h.cell (i := 6) rfl
  clear h
  go_enter Tryz.func41, Tryz.ntmps41
  go_wp2
  go_quiet (fail)
  go_wp2
  go_ret2
  exact ⟨rfl, bel_drewN (Below.refl _ _) _⟩
theorem rsNext_ok {b : Nat} {e k o li n m n' m' cn : Int} {v vn vk : Value} (w : World) (h : ObjAt w b 60 (rcells (rvC e k o li n m cn vn vk) v)) (h0 : 0 ≤ n) (h1 : n ≤ m) (h2 : m ≤ 1000) (hbn : blkNext n m = (n, 0, n', m')) :
    Calls Tryz.prog 41 #[.pointer (some ⟨b, 5, none⟩)] w fun r w' => r = .returned (.tuple #[.int .i64 n, .int .i64 0]) ∧ ObjAt w' b 60 (rcells (rvC e k o li n' m' cn vn vk) v) ∧ Kept [b] w w' := by
  have c5 : w.cell? ⟨b, 5, none⟩ = some (.int .i64 n) := h.cell (i := 5) rfl
  have c6 : w.cell? ⟨b, 6, none⟩ = some (.int .i64 m) := h.cell (i := 6) rfl
  have f5 := h.free 5
  have f6 := h.free 6
  by_cases e0 : n = m
  · subst e0
    by_cases g : n + 8 > 1000
    · rw [show blkNext n n = (0, 4, n, n) by simp [blkNext, g]] at hbn
      simp at hbn
    · rw [show blkNext n n = (n, 0, n + 1, n + 8) by simp [blkNext, g]] at hbn
      obtain ⟨_, _, rfl, rfl⟩ : n = n ∧ (0 : Int) = 0 ∧ n + 1 = n' ∧ n + 8 = m' := by simp at hbn; omega
      have fin : ∀ q, ObjAt (((w.drewN q).setCell ⟨b, 6, none⟩ (.int .i64 (n + 8))).setCell ⟨b, 5, none⟩ (.int .i64 (n + 1))) b 60 (rcells (rvC e k o li (n + 1) (n + 8) cn vn vk) v) ∧ Kept [b] w (((w.drewN q).setCell ⟨b, 6, none⟩ (.int .i64 (n + 8))).setCell ⟨b, 5, none⟩ (.int .i64 (n + 1))) :=
        fun q => ⟨((h.drewN q).set 6 _).set 5 _, (((Kept.refl _ _).drewN q).setCell (.inl (by simp)) _).setCell (.inl (by simp)) _⟩
      have Fin := hide fin
      clear fin h hbn
      go_enter Tryz.func41, Tryz.ntmps41
      go_wp2
      go_quiet (fail)
      go_wp2
      go_ret2
      exact ⟨rfl, Fin.out _⟩
  · rw [show blkNext n m = (n, 0, n + 1, m) by simp [blkNext, e0]] at hbn
    obtain ⟨_, _, rfl, rfl⟩ : n = n ∧ (0 : Int) = 0 ∧ n + 1 = n' ∧ m = m' := by simp at hbn; omega
    have hlt : n < m := by omega
    have fin : ∀ q, ObjAt ((w.drewN q).setCell ⟨b, 5, none⟩ (.int .i64 (n + 1))) b 60 (rcells (rvC e k o li (n + 1) m cn vn vk) v) ∧ Kept [b] w ((w.drewN q).setCell ⟨b, 5, none⟩ (.int .i64 (n + 1))) :=
      fun q => ⟨(h.drewN q).set 5 _, ((Kept.refl _ _).drewN q).setCell (.inl (by simp)) _⟩
    have Fin := hide fin
    clear fin h e0 hbn
    go_enter Tryz.func41, Tryz.ntmps41
    go_wp2
    go_quiet (fail)
    go_wp2
    go_ret2
    exact ⟨rfl, Fin.out _⟩
theorem rsTicket_bad {b : Nat} {u : Int} (hu : tmB u = false) (w : World) :
    Calls Tryz.prog 20 #[.pointer (some ⟨b, 0, none⟩), .int .i64 u] w fun r w' => r = .returned (.tuple #[.agg #[.int .i64 0, .int .i64 0, .int .i64 0, .int .i64 0], .int .i64 1]) ∧ Below w.heap.size w w' := by
  have T := hide (fun W => rTime_eq hu W)
  clear hu
  go_enter Tryz.func20, Tryz.ntmps20
  go_wp2_with fail
  refine (T.out _).mono ?_
  rintro r w1 ⟨rfl, rfl⟩
  go_wp2
  go_returns
  exact ⟨rfl, by go_grown⟩
theorem rs_bel4 {B X : Nat} {a w : World} (h : Below B a w) (hX : B ≤ X) (x0 x1 x2 x3 : Value) : Below B a ((((w.setCell ⟨X, 0, none⟩ x0).setCell ⟨X, 1, none⟩ x1).setCell ⟨X, 2, none⟩ x2).setCell ⟨X, 3, none⟩ x3) :=
  (((h.setCell (p := ⟨X, 0, none⟩) hX x0).setCell (p := ⟨X, 1, none⟩) hX x1).setCell (p := ⟨X, 2, none⟩) hX x2).setCell (p := ⟨X, 3, none⟩) hX x3
theorem rs_new4 {S : List Nat} {X : Nat} {a w : World} (h : Kept S a w) (hX : a.heap.size ≤ X) (x0 x1 x2 x3 : Value) : Kept S a ((((w.setCell ⟨X, 0, none⟩ x0).setCell ⟨X, 1, none⟩ x1).setCell ⟨X, 2, none⟩ x2).setCell ⟨X, 3, none⟩ x3) :=
  (((h.setCell (p := ⟨X, 0, none⟩) (.inr hX) x0).setCell (p := ⟨X, 1, none⟩) (.inr hX) x1).setCell (p := ⟨X, 2, none⟩) (.inr hX) x2).setCell (p := ⟨X, 3, none⟩) (.inr hX) x3
theorem rs_obj4 {w : World} {b X : Nat} {T : TypeId} {cs : List Value} (h : ObjAt w b T cs) (hn : b ≠ X) (x0 x1 x2 x3 : Value) : ObjAt ((((w.setCell ⟨X, 0, none⟩ x0).setCell ⟨X, 1, none⟩ x1).setCell ⟨X, 2, none⟩ x2).setCell ⟨X, 3, none⟩ x3) b T cs :=
  (((h.setOther (a := ⟨X, 0, none⟩) hn x0).setOther (a := ⟨X, 1, none⟩) hn x1).setOther (a := ⟨X, 2, none⟩) hn x2).setOther (a := ⟨X, 3, none⟩) hn x3
theorem rs_keepE {w2 : World} {b X : Nat} {c0 c1 : Value} (hn : b ≠ X) (hl : b < w2.heap.size) (K0 : w2.cell? ⟨b, 0, none⟩ = some c0) (K1 : w2.cell? ⟨b, 1, none⟩ = some c1) (x0 x1 x2 x3 : Value) (o : Obj) :
    ((((((w2.setCell ⟨X, 0, none⟩ x0).setCell ⟨X, 1, none⟩ x1).setCell ⟨X, 2, none⟩ x2).setCell ⟨X, 3, none⟩ x3).alloc o).drew).cell? ⟨b, 0, none⟩ = some c0 ∧ ((((((w2.setCell ⟨X, 0, none⟩ x0).setCell ⟨X, 1, none⟩ x1).setCell ⟨X, 2, none⟩ x2).setCell ⟨X, 3, none⟩ x3).alloc o).drew).cell? ⟨b, 1, none⟩ = some c1 := by
  have e : ∀ i, ((((((w2.setCell ⟨X, 0, none⟩ x0).setCell ⟨X, 1, none⟩ x1).setCell ⟨X, 2, none⟩ x2).setCell ⟨X, 3, none⟩ x3).alloc o).drew).cell? ⟨b, i, none⟩ = w2.cell? ⟨b, i, none⟩ := fun i => by
    show (((((w2.setCell ⟨X, 0, none⟩ x0).setCell ⟨X, 1, none⟩ x1).setCell ⟨X, 2, none⟩ x2).setCell ⟨X, 3, none⟩ x3).alloc o).cell? ⟨b, i, none⟩ = w2.cell? ⟨b, i, none⟩
    rw [World.cell?_alloc_lt _ _ ⟨b, i, none⟩ (by simpa using hl), World.cell?_setCell_far _ _ _ _ (fun h => hn h.symm), World.cell?_setCell_far _ _ _ _ (fun h => hn h.symm), World.cell?_setCell_far _ _ _ _ (fun h => hn h.symm), World.cell?_setCell_far _ _ _ _ (fun h => hn h.symm)]
  exact ⟨(e 0).trans K0, (e 1).trans K1⟩
set_option maxHeartbeats 4000000 in
theorem rsTicket_full {b : Nat} {u : Int} {e k o li n cn : Int} {v vn vk : Value} (hu : tmB u = true) (g : n + 8 > 1000) (h2 : n ≤ 1000) (w : World) (h : ObjAt w b 60 (rcells (rvC e k o li n n cn vn vk) v)) :
    Calls Tryz.prog 20 #[.pointer (some ⟨b, 0, none⟩), .int .i64 u] w fun r w' => r = .returned (.tuple #[.agg #[.int .i64 0, .int .i64 0, .int .i64 0, .int .i64 0], .int .i64 4]) ∧ Below w.heap.size w w' := by
  have T := hide (fun W => rTime_eq hu W)
  have NX := hide (fun W (hW : Below w.heap.size w W) => rsNext_full W (h.below hW) g h2)
  obtain ⟨W1, hW1⟩ : ∃ W1, W1 = w.alloc (.cells #[.int .i64 0, .int .i64 0, .int .i64 0, .int .i64 0] 67) := ⟨_, rfl⟩
  have hA1 : Below w.heap.size w W1 := by rw [hW1]; exact (Below.refl _ _).alloc (Nat.le_refl _) _
  have HO1 : Hid (ObjAt W1 w.heap.size 67 [.int .i64 0, .int .i64 0, .int .i64 0, .int .i64 0]) := by rw [hW1]; exact ObjAt.new _ _ _
  clear hu h
  go_enter Tryz.func20, Tryz.ntmps20
  go_upto_region 1 with (fail)
  rw [← hW1]
  clear hW1
  go_wp2_with fail
  refine (T.out _).mono ?_
  rintro r w1 ⟨rfl, rfl⟩
  go_wp2_with fail
  refine (NX.out _ hA1).mono ?_
  rintro r w1 ⟨rfl, hb1⟩
  have hB1 : Below w.heap.size w w1 := hA1.trans (hb1.mono hA1.size)
  have HO2 := hide (HO1.out.below hb1)
  have r0 := HO2.out.cell (i := 0) rfl
  have r1 := HO2.out.cell (i := 1) rfl
  have r2 := HO2.out.cell (i := 2) rfl
  have r3 := HO2.out.cell (i := 3) rfl
  have f0 := HO2.out.free 0
  have f1 := HO2.out.free 1
  have f2 := HO2.out.free 2
  have f3 := HO2.out.free 3
  have HB1 := hide hB1
  clear hb1 hA1 HO1 NX hB1
  go_wp2
  exact bodyPost_ret (v := .tuple #[.agg #[.int .i64 0, .int .i64 0, .int .i64 0, .int .i64 0], .int .i64 4]) (by simp [results, Tryz.results20, go_sem, *]) rfl ⟨rfl, rs_bel4 HB1.out (Nat.le_refl _) _ _ _ _⟩
set_option maxHeartbeats 4000000 in
theorem rsTicket_ok {b : Nat} {u : Int} {e k o li n m n' m' cn : Int} {v vn vk : Value} {zs z1 z2 : List (Int × Int)} (hu : tmB u = true) (hk : 0 ≤ k ∧ k < 999983) (h0 : 0 ≤ n) (h1 : n ≤ m) (h2 : m ≤ 1000) (hbn : blkNext n m = (n, 0, n', m')) (w : World) (h : RV w b e k o li n m cn v vn vk zs z1 z2) :
    Calls Tryz.prog 20 #[.pointer (some ⟨b, 0, none⟩), .int .i64 u] w fun r w' => r = .returned (.tuple #[.agg #[.int .i64 e, .int .i64 n, .int .i64 u, .int .i64 (tagOf k [2, n, u])], .int .i64 0]) ∧ RV w' b e k o li n' m' cn v vn vk zs z1 z2 ∧ SVst (rvF b v vn vk) (rvF b v vn vk) w w' := by
  have hub := tmB_true.1 hu
  have T := hide (fun W => rTime_eq hu W)
  have G := hide (rTag3 hk (show (0 : Int) ≤ 2 ∧ (2 : Int) < 999983 by omega) (show 0 ≤ n ∧ n < 999983 by omega) (show 0 ≤ u ∧ u < 999983 by omega))
  generalize tagOf k [2, n, u] = tg at G ⊢
  have NX := hide (fun W (hW : Below w.heap.size w W) => rsNext_ok W (h.q.1.below hW) h0 h1 h2 hbn)
  have hbl := h.q.1.lt
  have HV := hide h
  obtain ⟨W1, hW1⟩ : ∃ W1, W1 = w.alloc (.cells #[.int .i64 0, .int .i64 0, .int .i64 0, .int .i64 0] 67) := ⟨_, rfl⟩
  have hA1 : Below w.heap.size w W1 := by rw [hW1]; exact (Below.refl _ _).alloc (Nat.le_refl _) _
  have HO1 : Hid (ObjAt W1 w.heap.size 67 [.int .i64 0, .int .i64 0, .int .i64 0, .int .i64 0]) := by rw [hW1]; exact ObjAt.new _ _ _
  have hbX : b ≠ w.heap.size := Nat.ne_of_lt hbl
  clear hu hk h h0 h1 h2 hbn hub
  go_enter Tryz.func20, Tryz.ntmps20
  go_upto_region 1 with (fail)
  rw [← hW1]
  clear hW1
  go_wp2_with fail
  refine (T.out _).mono ?_
  rintro r w1 ⟨rfl, rfl⟩
  go_wp2_with fail
  refine (NX.out _ hA1).mono ?_
  rintro r w2 ⟨rfl, ho2, hk2⟩
  have HO2 := hide (hk2.obj HO1.out (by simp; exact fun e' => hbX e'.symm))
  have HQ2 := hide ho2
  have HK2 := hide ((Kept.of_below hA1 [b]).trans hk2)
  have q0 : w2.cell? ⟨b, 0, none⟩ = some (.int .i64 e) := ho2.cell (i := 0) rfl
  have q1 : w2.cell? ⟨b, 1, none⟩ = some (.int .i64 k) := ho2.cell (i := 1) rfl
  have hz2 : w.heap.size < w2.heap.size := HO2.out.lt
  have hb2 : b < w2.heap.size := ho2.lt
  have r0 := HO2.out.cell (i := 0) rfl
  have r1 := HO2.out.cell (i := 1) rfl
  have r2 := HO2.out.cell (i := 2) rfl
  have r3 := HO2.out.cell (i := 3) rfl
  have f0 := HO2.out.free 0
  have f1 := HO2.out.free 1
  have f2 := HO2.out.free 2
  have f3 := HO2.out.free 3
  clear hA1 HO1 NX ho2 hk2
  go_wp2_with fail
  go_region_held3 (fun w' => w'.cell? ⟨b, 0, none⟩ = some (.int .i64 e) ∧ w'.cell? ⟨b, 1, none⟩ = some (.int .i64 k)) (first | with_reducible exact rs_keepE hbX hb2 q0 q1 _ _ _ _ _ | go_keep)
    (first | (go_at_call 17; refine (G.out _ _ ?_).mono ?_; (first | (with_reducible refine ObjAt.drew ?_; exact objNew (by simp)) | exact objNew (by simp)); rintro e9 w9 ⟨rfl, rfl⟩))
  clear r0 r1 r2 r3 f0 f1 f2 f3
  have HO9 : Hid (ObjAt ((((((w2.setCell ⟨w.heap.size, 0, none⟩ (.int .i64 e)).setCell ⟨w.heap.size, 1, none⟩ (.int .i64 n)).setCell ⟨w.heap.size, 2, none⟩ (.int .i64 u)).setCell ⟨w.heap.size, 3, none⟩ (.int .i64 tg)).alloc (.cells #[.int .i64 2, .int .i64 n, .int .i64 u] 3)).drew) w.heap.size 67 [.int .i64 e, .int .i64 n, .int .i64 u, .int .i64 tg]) := hide (((((HO2.out.set 0 _).set 1 _).set 2 _).set 3 _).alloc _).drew
  have r0 := HO9.out.cell (i := 0) rfl
  have r1 := HO9.out.cell (i := 1) rfl
  have r2 := HO9.out.cell (i := 2) rfl
  have r3 := HO9.out.cell (i := 3) rfl
  have HFIN := hide (HV.out.own (((rs_obj4 HQ2.out hbX (.int .i64 e) (.int .i64 n) (.int .i64 u) (.int .i64 tg)).alloc (.cells #[.int .i64 2, .int .i64 n, .int .i64 u] 3)).drew) (((rs_new4 HK2.out (Nat.le_refl _) (.int .i64 e) (.int .i64 n) (.int .i64 u) (.int .i64 tg)).alloc (.cells #[.int .i64 2, .int .i64 n, .int .i64 u] 3)).drew) (.inl ⟨rfl, rfl⟩) (.inl ⟨rfl, rfl⟩) ⟨rfl, rfl⟩)
  obtain ⟨W9, hW9⟩ : ∃ W9, W9 = ((((((w2.setCell ⟨w.heap.size, 0, none⟩ (.int .i64 e)).setCell ⟨w.heap.size, 1, none⟩ (.int .i64 n)).setCell ⟨w.heap.size, 2, none⟩ (.int .i64 u)).setCell ⟨w.heap.size, 3, none⟩ (.int .i64 tg)).alloc (.cells #[.int .i64 2, .int .i64 n, .int .i64 u] 3)).drew) := ⟨_, rfl⟩
  rw [← hW9] at r0 r1 r2 r3 HFIN ⊢
  clear hW9 HO9 HO2 HQ2 HK2 q0 q1
  go_wp2
  exact bodyPost_ret (v := .tuple #[.agg #[.int .i64 e, .int .i64 n, .int .i64 u, .int .i64 tg], .int .i64 0]) (by simp [results, Tryz.results20, go_sem, r0, r1, r2, r3]) rfl ⟨rfl, HFIN.out⟩
end Go.Proofs.YtlnghfmcofmkjaaGreatDoor

namespace Go.Proofs.YtlnghfmcofmkjaaGreatDoor
open Go.RowKit

/-- is the ticket one of someone old? -/
def oldB (e k o te tn tu tt now : Int) : Bool := !(te == 0 && tn == 0 && tu == 0 && tt == 0) && tickE e k o te tn tu tt now == 0
set_option maxHeartbeats 1000000 in
theorem judgeold (e k o te tn tu tt now : Int) (w : World) : Calls Tryz.prog 126 #[.agg #[.int .i64 e, .int .i64 k, .int .i64 o], .agg #[.int .i64 te, .int .i64 tn, .int .i64 tu, .int .i64 tt], .int .i64 now] w fun r w' => r = .returned (.bool (oldB e k o te tn tu tt now)) ∧ Below w.heap.size w w' := by
  obtain ⟨c, hc⟩ : ∃ c, tickE e k o te tn tu tt now = c := ⟨_, rfl⟩
  have C := hide (fun W => ticketCheck_eq hc W)
  by_cases z0 : te = 0
  · subst z0
    by_cases z1 : tn = 0
    · subst z1
      by_cases z2 : tu = 0
      · subst z2
        by_cases z3 : tt = 0
        · subst z3
          rw [show oldB e k o 0 0 0 0 now = false by simp [oldB]]
          clear hc C
          go_enter Tryz.func126, Tryz.ntmps126
          go_wp2
          go_ret
          exact ⟨rfl, by go_grown⟩
        · have zz : (tt == 0) = false := beq_eq_false_iff_ne.2 z3
          have zn : (tt != 0) = true := bne_iff_ne.2 z3
          by_cases h0 : c = 0
          · subst h0
            rw [show oldB e k o 0 0 0 tt now = true by simp [oldB, hc, zz]]
            have C' : Hid (∀ W, Calls Tryz.prog 145 #[.agg #[.int .i64 e, .int .i64 k, .int .i64 o], .agg #[.int .i64 0, .int .i64 0, .int .i64 0, .int .i64 tt], .int .i64 now] W fun r w' => r = .returned .nilIface ∧ Below W.heap.size W w') := C
            clear hc C z3
            go_enter Tryz.func126, Tryz.ntmps126
            go_wp2_with fail
            refine (C'.out _).mono ?_
            rintro e w1 ⟨rfl, hb1⟩
            have hB1 : Below w.heap.size w w1 := by
              refine Below.trans ?_ (Below.mono hb1 ?_)
              · go_grown
              · first | omega | (simp; done) | (simp; omega)
            have hz1_0 : w.heap.size < w1.heap.size := by have := hb1.size; first | omega | (simp at this; omega)
            have hz1_1 : w.heap.size + 1 < w1.heap.size := by have := hb1.size; first | omega | (simp at this; omega)
            have hy1 : w.heap.size ≤ w1.heap.size := hB1.size
            obtain ⟨c1, d1⟩ := bcell hb1
            go_wp2
            go_ret
            exact ⟨rfl, by go_grown⟩
          · have t1 : (c == 0) = false := beq_eq_false_iff_ne.2 h0
            rw [show oldB e k o 0 0 0 tt now = false by simp [oldB, hc, t1]]
            clear hc z3 h0
            go_enter Tryz.func126, Tryz.ntmps126
            go_wp2_with fail
            refine (C.out _).mono ?_
            rintro e w1 ⟨rfl, hb1⟩
            have hB1 : Below w.heap.size w w1 := by
              refine Below.trans ?_ (Below.mono hb1 ?_)
              · go_grown
              · first | omega | (simp; done) | (simp; omega)
            have hz1_0 : w.heap.size < w1.heap.size := by have := hb1.size; first | omega | (simp at this; omega)
            have hz1_1 : w.heap.size + 1 < w1.heap.size := by have := hb1.size; first | omega | (simp at this; omega)
            have hy1 : w.heap.size ≤ w1.heap.size := hB1.size
            obtain ⟨c1, d1⟩ := bcell hb1
            go_wp2
            go_ret
            exact ⟨rfl, by go_grown⟩
      · have zz : (tu == 0) = false := beq_eq_false_iff_ne.2 z2
        have zn : (tu != 0) = true := bne_iff_ne.2 z2
        by_cases h0 : c = 0
        · subst h0
          rw [show oldB e k o 0 0 tu tt now = true by simp [oldB, hc, zz]]
          have C' : Hid (∀ W, Calls Tryz.prog 145 #[.agg #[.int .i64 e, .int .i64 k, .int .i64 o], .agg #[.int .i64 0, .int .i64 0, .int .i64 tu, .int .i64 tt], .int .i64 now] W fun r w' => r = .returned .nilIface ∧ Below W.heap.size W w') := C
          clear hc C z2
          go_enter Tryz.func126, Tryz.ntmps126
          go_wp2_with fail
          refine (C'.out _).mono ?_
          rintro e w1 ⟨rfl, hb1⟩
          have hB1 : Below w.heap.size w w1 := by
            refine Below.trans ?_ (Below.mono hb1 ?_)
            · go_grown
            · first | omega | (simp; done) | (simp; omega)
          have hz1_0 : w.heap.size < w1.heap.size := by have := hb1.size; first | omega | (simp at this; omega)
          have hz1_1 : w.heap.size + 1 < w1.heap.size := by have := hb1.size; first | omega | (simp at this; omega)
          have hy1 : w.heap.size ≤ w1.heap.size := hB1.size
          obtain ⟨c1, d1⟩ := bcell hb1
          go_wp2
          go_ret
          exact ⟨rfl, by go_grown⟩
        · have t1 : (c == 0) = false := beq_eq_false_iff_ne.2 h0
          rw [show oldB e k o 0 0 tu tt now = false by simp [oldB, hc, t1]]
          clear hc z2 h0
          go_enter Tryz.func126, Tryz.ntmps126
          go_wp2_with fail
          refine (C.out _).mono ?_
          rintro e w1 ⟨rfl, hb1⟩
          have hB1 : Below w.heap.size w w1 := by
            refine Below.trans ?_ (Below.mono hb1 ?_)
            · go_grown
            · first | omega | (simp; done) | (simp; omega)
          have hz1_0 : w.heap.size < w1.heap.size := by have := hb1.size; first | omega | (simp at this; omega)
          have hz1_1 : w.heap.size + 1 < w1.heap.size := by have := hb1.size; first | omega | (simp at this; omega)
          have hy1 : w.heap.size ≤ w1.heap.size := hB1.size
          obtain ⟨c1, d1⟩ := bcell hb1
          go_wp2
          go_ret
          exact ⟨rfl, by go_grown⟩
    · have zz : (tn == 0) = false := beq_eq_false_iff_ne.2 z1
      have zn : (tn != 0) = true := bne_iff_ne.2 z1
      by_cases h0 : c = 0
      · subst h0
        rw [show oldB e k o 0 tn tu tt now = true by simp [oldB, hc, zz]]
        have C' : Hid (∀ W, Calls Tryz.prog 145 #[.agg #[.int .i64 e, .int .i64 k, .int .i64 o], .agg #[.int .i64 0, .int .i64 tn, .int .i64 tu, .int .i64 tt], .int .i64 now] W fun r w' => r = .returned .nilIface ∧ Below W.heap.size W w') := C
        clear hc C z1
        go_enter Tryz.func126, Tryz.ntmps126
        go_wp2_with fail
        refine (C'.out _).mono ?_
        rintro e w1 ⟨rfl, hb1⟩
        have hB1 : Below w.heap.size w w1 := by
          refine Below.trans ?_ (Below.mono hb1 ?_)
          · go_grown
          · first | omega | (simp; done) | (simp; omega)
        have hz1_0 : w.heap.size < w1.heap.size := by have := hb1.size; first | omega | (simp at this; omega)
        have hz1_1 : w.heap.size + 1 < w1.heap.size := by have := hb1.size; first | omega | (simp at this; omega)
        have hy1 : w.heap.size ≤ w1.heap.size := hB1.size
        obtain ⟨c1, d1⟩ := bcell hb1
        go_wp2
        go_ret
        exact ⟨rfl, by go_grown⟩
      · have t1 : (c == 0) = false := beq_eq_false_iff_ne.2 h0
        rw [show oldB e k o 0 tn tu tt now = false by simp [oldB, hc, t1]]
        clear hc z1 h0
        go_enter Tryz.func126, Tryz.ntmps126
        go_wp2_with fail
        refine (C.out _).mono ?_
        rintro e w1 ⟨rfl, hb1⟩
        have hB1 : Below w.heap.size w w1 := by
          refine Below.trans ?_ (Below.mono hb1 ?_)
          · go_grown
          · first | omega | (simp; done) | (simp; omega)
        have hz1_0 : w.heap.size < w1.heap.size := by have := hb1.size; first | omega | (simp at this; omega)
        have hz1_1 : w.heap.size + 1 < w1.heap.size := by have := hb1.size; first | omega | (simp at this; omega)
        have hy1 : w.heap.size ≤ w1.heap.size := hB1.size
        obtain ⟨c1, d1⟩ := bcell hb1
        go_wp2
        go_ret
        exact ⟨rfl, by go_grown⟩
  · have zz : (te == 0) = false := beq_eq_false_iff_ne.2 z0
    have zn : (te != 0) = true := bne_iff_ne.2 z0
    by_cases h0 : c = 0
    · subst h0
      rw [show oldB e k o te tn tu tt now = true by simp [oldB, hc, zz]]
      have C' : Hid (∀ W, Calls Tryz.prog 145 #[.agg #[.int .i64 e, .int .i64 k, .int .i64 o], .agg #[.int .i64 te, .int .i64 tn, .int .i64 tu, .int .i64 tt], .int .i64 now] W fun r w' => r = .returned .nilIface ∧ Below W.heap.size W w') := C
      clear hc C z0
      go_enter Tryz.func126, Tryz.ntmps126
      go_wp2_with fail
      refine (C'.out _).mono ?_
      rintro e w1 ⟨rfl, hb1⟩
      have hB1 : Below w.heap.size w w1 := by
        refine Below.trans ?_ (Below.mono hb1 ?_)
        · go_grown
        · first | omega | (simp; done) | (simp; omega)
      have hz1_0 : w.heap.size < w1.heap.size := by have := hb1.size; first | omega | (simp at this; omega)
      have hz1_1 : w.heap.size + 1 < w1.heap.size := by have := hb1.size; first | omega | (simp at this; omega)
      have hy1 : w.heap.size ≤ w1.heap.size := hB1.size
      obtain ⟨c1, d1⟩ := bcell hb1
      go_wp2
      go_ret
      exact ⟨rfl, by go_grown⟩
    · have t1 : (c == 0) = false := beq_eq_false_iff_ne.2 h0
      rw [show oldB e k o te tn tu tt now = false by simp [oldB, hc, t1]]
      clear hc z0 h0
      go_enter Tryz.func126, Tryz.ntmps126
      go_wp2_with fail
      refine (C.out _).mono ?_
      rintro e w1 ⟨rfl, hb1⟩
      have hB1 : Below w.heap.size w w1 := by
        refine Below.trans ?_ (Below.mono hb1 ?_)
        · go_grown
        · first | omega | (simp; done) | (simp; omega)
      have hz1_0 : w.heap.size < w1.heap.size := by have := hb1.size; first | omega | (simp at this; omega)
      have hz1_1 : w.heap.size + 1 < w1.heap.size := by have := hb1.size; first | omega | (simp at this; omega)
      have hy1 : w.heap.size ≤ w1.heap.size := hB1.size
      obtain ⟨c1, d1⟩ := bcell hb1
      go_wp2
      go_ret
      exact ⟨rfl, by go_grown⟩
theorem judgeold_eq {e k o te tn tu tt now : Int} {v : Bool} (h : oldB e k o te tn tu tt now = v) (w : World) : Calls Tryz.prog 126 #[.agg #[.int .i64 e, .int .i64 k, .int .i64 o], .agg #[.int .i64 te, .int .i64 tn, .int .i64 tu, .int .i64 tt], .int .i64 now] w fun r w' => r = .returned (.bool v) ∧ Below w.heap.size w w' := by
  have g := judgeold e k o te tn tu tt now w
  rwa [h] at g
/-- what Old tells -/
def oldN (e k o te tn tu tt now : Int) : Bool × Int := if ringE e k o ≠ 0 then (false, ringE e k o) else if tmB now = false then (false, 1) else (oldB e k o te tn tu tt now, 0)
end Go.Proofs.YtlnghfmcofmkjaaGreatDoor
