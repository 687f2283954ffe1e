/- block: New, Next, Bound, Crash by contracts. issue: New, Issue, Many by contracts. -/
import Derived.Test.YtkkmlolnikomdaaGreatDoorServerPlaysProofM0
import Derived.Handy
import Derived.Deep.QuietTactic
import Derived.BigQuiet
import Derived.Test.YtkkmlolnikomdaaGreatDoorTicketC
namespace Go.Proofs.YtkkmlolnikomdaaGreatDoor
open Go.RowKit

/-- Block b is a Blocks whose next number is n, bound m. -/
def BlkAt (w : World) (b : Nat) (n m : Int) : Prop := ObjAt w b 130 [.int .i64 n, .int .i64 m]

theorem blockNew (w : World) : Calls Tryz.prog 42 #[] w fun e w' => e = .returned (.pointer (some ⟨w.heap.size, 0, none⟩)) ∧ w.alloc (.cells #[.int .i64 0, .int .i64 0] 130) = w' := by
  go_enter Tryz.func42, Tryz.ntmps42
  go_wp2
  go_ret
  exact ⟨rfl, rfl⟩

/-- there is a number left of the block -/
theorem blockNext_in (b : Nat) (n m : Int) (w : World) (h : BlkAt w b n m) (h0 : 0 ≤ n) (h1 : n < m) (h2 : m ≤ 1000) :
    Calls Tryz.prog 45 #[.pointer (some ⟨b, 0, none⟩)] w fun e w' => e = .returned (.tuple #[.int .i64 n, .nilIface]) ∧ BlkAt w' b (n + 1) m ∧ Kept [b] w w' := by
  have c0 := h.cell (i := 0) rfl
  have c1 := h.cell (i := 1) rfl
  have f0 := h.free 0
  have f1 := h.free 1
  have hne : (n == m) = false := beq_eq_false_iff_ne.2 (by omega)
  have fin : ∀ k, BlkAt ((w.drewN k).setCell ⟨b, 0, none⟩ (.int .i64 (n + 1))) b (n + 1) m ∧ Kept [b] w ((w.drewN k).setCell ⟨b, 0, none⟩ (.int .i64 (n + 1))) :=
    fun k => ⟨(h.drewN k).set 0 _, ((Kept.refl _ _).drewN k).setCell (.inl (by simp)) _⟩
  have Fin := hide fin
  clear fin h
  go_enter Tryz.func45, Tryz.ntmps45
  go_wp2
  go_quiet (fail)
  go_wp2
  go_ret2
  exact ⟨rfl, Fin.out _⟩

/-- a new block is begun -/
theorem blockNext_new (b : Nat) (n : Int) (w : World) (h : BlkAt w b n n) (h0 : 0 ≤ n) (h2 : n + 8 ≤ 1000) :
    Calls Tryz.prog 45 #[.pointer (some ⟨b, 0, none⟩)] w fun e w' => e = .returned (.tuple #[.int .i64 n, .nilIface]) ∧ BlkAt w' b (n + 1) (n + 8) ∧ Kept [b] w w' := by
  have c0 := h.cell (i := 0) rfl
  have c1 := h.cell (i := 1) rfl
  have f0 := h.free 0
  have f1 := h.free 1
  have fin : ∀ k, BlkAt (((w.drewN k).setCell ⟨b, 1, none⟩ (.int .i64 (n + 8))).setCell ⟨b, 0, none⟩ (.int .i64 (n + 1))) b (n + 1) (n + 8) ∧ Kept [b] w (((w.drewN k).setCell ⟨b, 1, none⟩ (.int .i64 (n + 8))).setCell ⟨b, 0, none⟩ (.int .i64 (n + 1))) :=
    fun k => ⟨((h.drewN k).set 1 _).set 0 _, (((Kept.refl _ _).drewN k).setCell (.inl (by simp)) _).setCell (.inl (by simp)) _⟩
  have Fin := hide fin
  clear fin h
  go_enter Tryz.func45, Tryz.ntmps45
  go_wp2
  go_quiet (fail)
  go_wp2
  go_ret2
  exact ⟨rfl, Fin.out _⟩

/-- none is left -/
theorem blockNext_full (b : Nat) (n : Int) (w : World) (h : BlkAt w b n n) (h0 : 0 ≤ n) (h1 : n ≤ 1000) (h2 : 1000 < n + 8) :
    Calls Tryz.prog 45 #[.pointer (some ⟨b, 0, none⟩)] w fun e w' => e = .returned (.tuple #[.int .i64 0, .iface 71 (.int .i64 4)]) ∧ BlkAt w' b n n ∧ Kept [b] w w' := by
  have c0 := h.cell (i := 0) rfl
  have c1 := h.cell (i := 1) rfl
  have fin : ∀ k, BlkAt (w.drewN k) b n n ∧ Kept [b] w (w.drewN k) := fun k => ⟨h.drewN k, (Kept.refl _ _).drewN k⟩
  have Fin := hide fin
  clear fin h
  go_enter Tryz.func45, Tryz.ntmps45
  go_wp2
  go_quiet (fail)
  go_wp2
  go_ret2
  exact ⟨rfl, Fin.out _⟩

/-- the state behind a Next, and what it tells -/
def blkNext (n m : Int) : Int × Int × Int × Int := if n = m then (if m + 8 > 1000 then (0, 4, n, m) else (n, 0, n + 1, m + 8)) else (n, 0, n + 1, m)
theorem blockNext (b : Nat) (n m : Int) (w : World) (h : BlkAt w b n m) (h0 : 0 ≤ n) (h1 : n ≤ m) (h2 : m ≤ 1000) :
    Calls Tryz.prog 45 #[.pointer (some ⟨b, 0, none⟩)] w fun e w' => e = .returned (.tuple #[.int .i64 (blkNext n m).1, errV (blkNext n m).2.1]) ∧ BlkAt w' b (blkNext n m).2.2.1 (blkNext n m).2.2.2 ∧ Kept [b] w w' := by
  by_cases e : n = m
  · subst e
    by_cases g : n + 8 > 1000
    · simp only [blkNext, if_true, if_pos g]
      exact blockNext_full b n w h h0 h2 (by omega)
    · simp only [blkNext, if_true, if_neg g]
      exact blockNext_new b n w h h0 (by omega)
  · simp only [blkNext, if_neg e]
    exact blockNext_in b n m w h h0 (by omega) h2

end Go.Proofs.YtkkmlolnikomdaaGreatDoor

namespace Go.Proofs.YtkkmlolnikomdaaGreatDoor
open Go.RowKit

/-- Block b is an Issuer over the Blocks at bb. -/
def IssAt (w : World) (b bb : Nat) (n m many : Int) : Prop := ObjAt w b 104 [.pointer (some ⟨bb, 0, none⟩), .int .i64 many] ∧ BlkAt w bb n m ∧ b ≠ bb

theorem issueNew (w : World) : Calls Tryz.prog 23 #[] w fun e w' => e = .returned (.pointer (some ⟨w.heap.size + 1, 0, none⟩)) ∧ IssAt w' (w.heap.size + 1) w.heap.size 0 0 0 ∧ Below w.heap.size w w' := by
  go_enter Tryz.func23, Tryz.ntmps23
  go_wp2_with fail
  refine (blockNew _).mono ?_
  rintro e w1 ⟨rfl, rfl⟩
  go_wp2
  go_ret
  refine ⟨rfl, ⟨?_, ?_, by omega⟩, by go_grown⟩
  · exact objNew (by simp)
  · exact ObjAt.alloc (ObjAt.new _ _ _) _

theorem IssAt.below {w w' : World} {b bb : Nat} {n m many : Int} (h : IssAt w b bb n m many) (hb : Below w.heap.size w w') : IssAt w' b bb n m many := ⟨h.1.below hb, ObjAt.below h.2.1 hb, h.2.2⟩

theorem issue_bad (b : Nat) (e k o u c : Int) (w : World) (hc : tkmE e k o 0 u = c) (h0 : c ≠ 0) :
    Calls Tryz.prog 28 #[.pointer (some ⟨b, 0, none⟩), .agg #[.int .i64 e, .int .i64 k, .int .i64 o], .int .i64 u] w fun r w' => r = .returned (.tuple #[.agg #[.int .i64 0, .int .i64 0, .int .i64 0, .int .i64 0], errV c]) ∧ Below w.heap.size w w' := by
  by_cases hr : ringE e k o = 0
  · have C : Hid (∀ W, Calls Tryz.prog 44 #[.agg #[.int .i64 e, .int .i64 k, .int .i64 o]] W fun r w' => r = .returned .nilIface ∧ Below W.heap.size W w') := ringCheck_eq (c := 0) hr
    have hh : tmB u = false ∧ c = 1 := by
      unfold tkmE at hc
      rw [if_neg (by simp [hr])] at hc
      cases h : tmB u
      · rw [h] at hc; exact ⟨rfl, by simpa using hc.symm⟩
      · rw [h] at hc; exact absurd (by simpa [inB] using hc.symm) h0
    obtain ⟨hu, rfl⟩ := hh
    have T := hide (fun W => tokenTime_eq hu W)
    clear hr hu hc h0
    go_enter Tryz.func28, Tryz.ntmps28
    go_wp2_with fail
    refine (C.out _).mono ?_
    rintro e1 w1 ⟨rfl, hb1⟩
    have hB1 := bel_a2 hb1
    have hz1 : w.heap.size < w1.heap.size := by have := hb1.size; simp at this; omega
    have hz2 : w.heap.size + 1 < w1.heap.size := by have := hb1.size; simp at this; omega
    obtain ⟨c1, d1⟩ := bcell hb1
    go_wp2_with fail
    refine (T.out _).mono ?_
    rintro e2 w2 ⟨rfl, rfl⟩
    go_wp2
    exact bodyPost_ret (v := .tuple #[.agg #[.int .i64 0, .int .i64 0, .int .i64 0, .int .i64 0], .iface 71 (.int .i64 1)]) (by simp [results, Tryz.results28, go_sem, *]) rfl ⟨rfl, by go_grown⟩
  · have e1 : ringE e k o = c := by unfold tkmE at hc; rwa [if_pos hr] at hc
    have C := hide (fun W => ringCheck_eq e1 W)
    have t1 : (c != 0) = true := bne_iff_ne.2 h0
    clear hr e1 hc h0
    go_enter Tryz.func28, Tryz.ntmps28
    go_wp2_with fail
    refine (C.out _).mono ?_
    rintro e1 w1 ⟨rfl, hb1⟩
    have hB1 := bel_a2 hb1
    have hz1 : w.heap.size < w1.heap.size := by have := hb1.size; simp at this; omega
    have hz2 : w.heap.size + 1 < w1.heap.size := by have := hb1.size; simp at this; omega
    obtain ⟨c1, d1⟩ := bcell hb1
    go_wp2
    exact bodyPost_ret (v := .tuple #[.agg #[.int .i64 0, .int .i64 0, .int .i64 0, .int .i64 0], errV c]) (by simp [results, Tryz.results28, go_sem, *]) rfl ⟨rfl, by go_grown⟩
set_option maxHeartbeats 1000000 in
theorem issue_full (b bb : Nat) (e k o u n many : Int) (w : World) (h : IssAt w b bb n n many) (hr : ringE e k o = 0) (hu : tmB u = true) (h0 : 0 ≤ n) (h1 : n ≤ 1000) (h2 : 1000 < n + 8) :
    Calls Tryz.prog 28 #[.pointer (some ⟨b, 0, none⟩), .agg #[.int .i64 e, .int .i64 k, .int .i64 o], .int .i64 u] w fun r w' => r = .returned (.tuple #[.agg #[.int .i64 0, .int .i64 0, .int .i64 0, .int .i64 0], .iface 71 (.int .i64 4)]) ∧ IssAt w' b bb n n many ∧ Kept [b, bb] w w' := by
  obtain ⟨hI, hK, hne⟩ := h
  have C : Hid (∀ W, Calls Tryz.prog 44 #[.agg #[.int .i64 e, .int .i64 k, .int .i64 o]] W fun r w' => r = .returned .nilIface ∧ Below W.heap.size W w') := ringCheck_eq (c := 0) hr
  have T := hide (fun W => tokenTime_eq hu W)
  have hbl := ObjAt.lt hI
  have hkl := ObjAt.lt hK
  go_enter Tryz.func28, Tryz.ntmps28
  go_wp2_with fail
  refine (C.out _).mono ?_
  rintro e1 w1 ⟨rfl, hb1⟩
  have hB1 := bel_a2 hb1
  have hz1 : w.heap.size < w1.heap.size := by have := hb1.size; simp at this; omega
  have hz2 : w.heap.size + 1 < w1.heap.size := by have := hb1.size; simp at this; omega
  have r1 : ObjAt w1 w.heap.size 42 [.int .i64 e, .int .i64 k, .int .i64 o] := ObjAt.below (ObjAt.alloc (ObjAt.new _ _ _) _) hb1
  have r2 : ObjAt w1 (w.heap.size + 1) 36 [.int .i64 0, .int .i64 0, .int .i64 0, .int .i64 0] := ObjAt.below (objNew (by simp)) hb1
  have hI1 := ObjAt.below hI hB1
  have hK1 : BlkAt w1 bb n n := ObjAt.below hK hB1
  have q0 := hI1.cell (i := 0) rfl
  have HI1 := hide hI1
  have HK1 := hide hK1
  have R1 := hide r1
  have R2 := hide r2
  clear hb1 r1 r2 hI1 hK1 hI hK
  go_wp2_with fail
  refine (T.out _).mono ?_
  rintro e2 w2 ⟨rfl, rfl⟩
  go_wp2_with fail
  refine (blockNext_full bb n _ HK1.out h0 h1 h2).mono ?_
  rintro e3 w3 ⟨rfl, hK3, hk3⟩
  have hz3 := hk3.size
  have r3 := hk3.obj R2.out (by simp; omega)
  have hI3 := hide (hk3.obj HI1.out (by simpa using hne))
  have p0 := r3.cell (i := 0) rfl
  have p1 := r3.cell (i := 1) rfl
  have p2 := r3.cell (i := 2) rfl
  have p3 := r3.cell (i := 3) rfl
  have g0 := r3.free 0
  have g1 := r3.free 1
  have g2 := r3.free 2
  have g3 := r3.free 3
  have hKp : Kept [b, bb] w w3 := (Kept.of_below hB1 [b, bb]).trans (hk3.mono (by simp))
  have HKp := hide hKp
  have HK3 := hide hK3
  clear hk3 hK3 hKp R1 R2 HI1 HK1 r3
  go_wp2
  refine bodyPost_ret (v := .tuple #[.agg #[.int .i64 0, .int .i64 0, .int .i64 0, .int .i64 0], .iface 71 (.int .i64 4)]) (by simp [results, Tryz.results28, go_sem, *]) rfl ⟨rfl, ?_, ?_⟩
  · exact ⟨ObjAt.other4 hI3.out (by omega), ObjAt.other4 HK3.out (by omega), hne⟩
  · exact HKp.out.new4 (.inr (by omega))

set_option maxHeartbeats 1000000 in
theorem issue_ok (b bb : Nat) (e k o u n m v n' m' many : Int) (w : World) (h : IssAt w b bb n m many) (hr : ringE e k o = 0) (hu : tmB u = true) (h0 : 0 ≤ n) (h1 : n ≤ m) (h2 : m ≤ 1000) (hbn : blkNext n m = (v, 0, n', m')) (hm : 0 ≤ many ∧ many ≤ 100000) :
    Calls Tryz.prog 28 #[.pointer (some ⟨b, 0, none⟩), .agg #[.int .i64 e, .int .i64 k, .int .i64 o], .int .i64 u] w fun r w' => r = .returned (.tuple #[.agg #[.int .i64 e, .int .i64 v, .int .i64 u, .int .i64 (tagOf k [2, v, u])], .nilIface]) ∧ IssAt w' b bb n' m' (many + 1) ∧ Kept [b, bb] w w' := by
  have hv : v = n := by
    unfold blkNext at hbn
    split at hbn
    · split at hbn <;> simp only [Prod.mk.injEq] at hbn <;> omega
    · simp only [Prod.mk.injEq] at hbn; omega
  obtain ⟨_, hk, _, _⟩ := ringE_ok hr
  have N : Hid (∀ W, BlkAt W bb n m → Calls Tryz.prog 45 #[.pointer (some ⟨bb, 0, none⟩)] W fun e w' => e = .returned (.tuple #[.int .i64 v, .nilIface]) ∧ BlkAt w' bb n' m' ∧ Kept [bb] W w') := by
    intro W hW
    have g := blockNext bb n m W hW h0 h1 h2
    rw [hbn] at g
    exact g
  have M := hide (fun W => ticketMade (e := e) (k := k) (o := o) (n := v) (u := u) hk (by omega) (tmB_true.1 hu) W)
  obtain ⟨hm0, hm1⟩ := hm
  clear hbn hv
  obtain ⟨hI, hK, hne⟩ := h
  have C : Hid (∀ W, Calls Tryz.prog 44 #[.agg #[.int .i64 e, .int .i64 k, .int .i64 o]] W fun r w' => r = .returned .nilIface ∧ Below W.heap.size W w') := ringCheck_eq (c := 0) hr
  have T := hide (fun W => tokenTime_eq hu W)
  have hbl := ObjAt.lt hI
  have hkl := ObjAt.lt hK
  go_enter Tryz.func28, Tryz.ntmps28
  go_wp2_with fail
  refine (C.out _).mono ?_
  rintro e1 w1 ⟨rfl, hb1⟩
  have hB1 := bel_a2 hb1
  have hz1 : w.heap.size < w1.heap.size := by have := hb1.size; simp at this; omega
  have hz2 : w.heap.size + 1 < w1.heap.size := by have := hb1.size; simp at this; omega
  have r1 : ObjAt w1 w.heap.size 42 [.int .i64 e, .int .i64 k, .int .i64 o] := ObjAt.below (ObjAt.alloc (ObjAt.new _ _ _) _) hb1
  have r2 : ObjAt w1 (w.heap.size + 1) 36 [.int .i64 0, .int .i64 0, .int .i64 0, .int .i64 0] := ObjAt.below (objNew (by simp)) hb1
  have hI1 := ObjAt.below hI hB1
  have hK1 : BlkAt w1 bb n m := ObjAt.below hK hB1
  have q0 := hI1.cell (i := 0) rfl
  have HI1 := hide hI1
  have HK1 := hide hK1
  have R1 := hide r1
  have R2 := hide r2
  clear hb1 r1 r2 hI1 hK1 hI hK
  go_wp2_with fail
  refine (T.out _).mono ?_
  rintro e2 w2 ⟨rfl, rfl⟩
  go_wp2_with fail
  refine (N.out _ HK1.out).mono ?_
  rintro e3 w3 ⟨rfl, hK3, hk3⟩
  have hz3 := hk3.size
  have r3 := hk3.obj R2.out (by simp; omega)
  have r4 := hk3.obj R1.out (by simp; omega)
  have hI3 := hk3.obj HI1.out (by simpa using hne)
  have s0 := hI3.cell (i := 0) rfl
  have s1 := hI3.cell (i := 1) rfl
  have s2 := hI3.free 1
  have p0 := r4.cell (i := 0) rfl
  have p1 := r4.cell (i := 1) rfl
  have p2 := r4.cell (i := 2) rfl
  have hKp : Kept [b, bb] w w3 := (Kept.of_below hB1 [b, bb]).trans (hk3.mono (by simp))
  have HKp := hide hKp
  have HK3 := hide hK3
  have HI3 := hide hI3
  have R3 := hide r3
  clear hk3 hK3 hKp R1 R2 HI1 HK1 r3 r4 hI3 q0
  go_wp2_with fail
  refine (M.out _).mono ?_
  rintro e4 w4 ⟨rfl, hb4⟩
  have hz4 := hb4.size
  have hz5 : w3.heap.size ≤ w4.heap.size := by simpa using hz4
  have r5 := ObjAt.below (ObjAt.setOther R3.out (a := ⟨b, 1, none⟩) (by simp; omega) (.int .i64 (many + 1))) hb4
  have hI4 := ObjAt.below (ObjAt.set HI3.out 1 (.int .i64 (many + 1))) hb4
  have hK4 : BlkAt w4 bb n' m' := ObjAt.below (ObjAt.setOther HK3.out (a := ⟨b, 1, none⟩) (fun h => hne h.symm) (.int .i64 (many + 1))) hb4
  have hKp4 := (HKp.out.setCell (p := ⟨b, 1, none⟩) (.inl (by simp)) (.int .i64 (many + 1))).trans (Kept.of_below hb4 _)
  have HI4 := hide hI4
  have HK4 := hide hK4
  have HKp4 := hide hKp4
  have x0 := r5.cell (i := 0) rfl
  have x1 := r5.cell (i := 1) rfl
  have x2 := r5.cell (i := 2) rfl
  have x3 := r5.cell (i := 3) rfl
  have g0 := r5.free 0
  have g1 := r5.free 1
  have g2 := r5.free 2
  have g3 := r5.free 3
  clear hb4 hz4 r5 hI4 hK4 hKp4 HI3 HK3 HKp R3 p0 p1 p2 s0 s1 s2
  go_wp2
  refine bodyPost_ret (v := .tuple #[.agg #[.int .i64 e, .int .i64 v, .int .i64 u, .int .i64 (tagOf k [2, v, u])], .nilIface]) (by simp [results, Tryz.results28, go_sem, *]) rfl ⟨rfl, ?_, ?_⟩
  · exact ⟨ObjAt.other4 HI4.out (by omega), ObjAt.other4 HK4.out (by omega), hne⟩
  · exact HKp4.out.new4 (.inr (by omega))
end Go.Proofs.YtkkmlolnikomdaaGreatDoor
