/- block: New, Next, Bound, Crash by contracts. issue: New, Issue, Many by contracts. slices.DeleteFunc at []api.Spent; spent.left: by contracts. -/
import Derived.Test.YtlnghfmcofmkjaaGreatDoorRunAnswersProofM2
import Derived.Test.YtlnghfmcofmkjaaGreatDoorObj
import Derived.Handy
import Derived.Deep.QuietTactic
import Derived.BigQuiet
import Derived.Test.YtlnghfmcofmkjaaGreatDoorTicketC
import Derived.Test.YtlnghfmcofmkjaaGreatDoorRunAnswersProofM5
namespace Go.Proofs.YtlnghfmcofmkjaaGreatDoor
open Go.RowKit

/-- Block b is a Blocks whose next number is n, bound m. -/
def BlkAt (w : World) (b : Nat) (n m : Int) : Prop := ObjAt w b 144 [.int .i64 n, .int .i64 m]

theorem blockNew (w : World) : Calls Tryz.prog 45 #[] w fun e w' => e = .returned (.pointer (some ⟨w.heap.size, 0, none⟩)) ∧ w.alloc (.cells #[.int .i64 0, .int .i64 0] 144) = w' := by
  go_enter Tryz.func45, Tryz.ntmps45
  go_wp2
  go_ret
  exact ⟨rfl, rfl⟩

/-- there is a number left of the block -/
theorem blockNext_in (b : Nat) (n m : Int) (w : World) (h : BlkAt w b n m) (h0 : 0 ≤ n) (h1 : n < m) (h2 : m ≤ 1000) :
    Calls Tryz.prog 131 #[.pointer (some ⟨b, 0, none⟩)] w fun e w' => e = .returned (.tuple #[.int .i64 n, .nilIface]) ∧ BlkAt w' b (n + 1) m ∧ Kept [b] w w' := by
  have c0 := h.cell (i := 0) rfl
  have c1 := h.cell (i := 1) rfl
  have f0 := h.free 0
  have f1 := h.free 1
  have hne : (n == m) = false := beq_eq_false_iff_ne.2 (by omega)
  have fin : ∀ k, BlkAt ((w.drewN k).setCell ⟨b, 0, none⟩ (.int .i64 (n + 1))) b (n + 1) m ∧ Kept [b] w ((w.drewN k).setCell ⟨b, 0, none⟩ (.int .i64 (n + 1))) :=
    fun k => ⟨(h.drewN k).set 0 _, ((Kept.refl _ _).drewN k).setCell (.inl (by simp)) _⟩
  have Fin := hide fin
  clear fin h
  go_enter Tryz.func131, Tryz.ntmps131
  go_wp2
  go_quiet (fail)
  go_wp2
  go_ret2
  exact ⟨rfl, Fin.out _⟩

/-- a new block is begun -/
theorem blockNext_new (b : Nat) (n : Int) (w : World) (h : BlkAt w b n n) (h0 : 0 ≤ n) (h2 : n + 8 ≤ 1000) :
    Calls Tryz.prog 131 #[.pointer (some ⟨b, 0, none⟩)] w fun e w' => e = .returned (.tuple #[.int .i64 n, .nilIface]) ∧ BlkAt w' b (n + 1) (n + 8) ∧ Kept [b] w w' := by
  have c0 := h.cell (i := 0) rfl
  have c1 := h.cell (i := 1) rfl
  have f0 := h.free 0
  have f1 := h.free 1
  have fin : ∀ k, BlkAt (((w.drewN k).setCell ⟨b, 1, none⟩ (.int .i64 (n + 8))).setCell ⟨b, 0, none⟩ (.int .i64 (n + 1))) b (n + 1) (n + 8) ∧ Kept [b] w (((w.drewN k).setCell ⟨b, 1, none⟩ (.int .i64 (n + 8))).setCell ⟨b, 0, none⟩ (.int .i64 (n + 1))) :=
    fun k => ⟨((h.drewN k).set 1 _).set 0 _, (((Kept.refl _ _).drewN k).setCell (.inl (by simp)) _).setCell (.inl (by simp)) _⟩
  have Fin := hide fin
  clear fin h
  go_enter Tryz.func131, Tryz.ntmps131
  go_wp2
  go_quiet (fail)
  go_wp2
  go_ret2
  exact ⟨rfl, Fin.out _⟩

/-- none is left -/
theorem blockNext_full (b : Nat) (n : Int) (w : World) (h : BlkAt w b n n) (h0 : 0 ≤ n) (h1 : n ≤ 1000) (h2 : 1000 < n + 8) :
    Calls Tryz.prog 131 #[.pointer (some ⟨b, 0, none⟩)] w fun e w' => e = .returned (.tuple #[.int .i64 0, .iface 82 (.int .i64 4)]) ∧ BlkAt w' b n n ∧ Kept [b] w w' := by
  have c0 := h.cell (i := 0) rfl
  have c1 := h.cell (i := 1) rfl
  have fin : ∀ k, BlkAt (w.drewN k) b n n ∧ Kept [b] w (w.drewN k) := fun k => ⟨h.drewN k, (Kept.refl _ _).drewN k⟩
  have Fin := hide fin
  clear fin h
  go_enter Tryz.func131, Tryz.ntmps131
  go_wp2
  go_quiet (fail)
  go_wp2
  go_ret2
  exact ⟨rfl, Fin.out _⟩

/-- the state behind a Next, and what it tells -/
def blkNext (n m : Int) : Int × Int × Int × Int := if n = m then (if m + 8 > 1000 then (0, 4, n, m) else (n, 0, n + 1, m + 8)) else (n, 0, n + 1, m)
theorem blockNext (b : Nat) (n m : Int) (w : World) (h : BlkAt w b n m) (h0 : 0 ≤ n) (h1 : n ≤ m) (h2 : m ≤ 1000) :
    Calls Tryz.prog 131 #[.pointer (some ⟨b, 0, none⟩)] w fun e w' => e = .returned (.tuple #[.int .i64 (blkNext n m).1, errV (blkNext n m).2.1]) ∧ BlkAt w' b (blkNext n m).2.2.1 (blkNext n m).2.2.2 ∧ Kept [b] w w' := by
  by_cases e : n = m
  · subst e
    by_cases g : n + 8 > 1000
    · simp only [blkNext, if_true, if_pos g]
      exact blockNext_full b n w h h0 h2 (by omega)
    · simp only [blkNext, if_true, if_neg g]
      exact blockNext_new b n w h h0 (by omega)
  · simp only [blkNext, if_neg e]
    exact blockNext_in b n m w h h0 (by omega) h2

end Go.Proofs.YtlnghfmcofmkjaaGreatDoor

namespace Go.Proofs.YtlnghfmcofmkjaaGreatDoor
open Go.RowKit

/-- Block b is an Issuer over the Blocks at bb. -/
def IssAt (w : World) (b bb : Nat) (n m many : Int) : Prop := ObjAt w b 114 [.pointer (some ⟨bb, 0, none⟩), .int .i64 many] ∧ BlkAt w bb n m ∧ b ≠ bb

theorem issueNew (w : World) : Calls Tryz.prog 30 #[] w fun e w' => e = .returned (.pointer (some ⟨w.heap.size + 1, 0, none⟩)) ∧ IssAt w' (w.heap.size + 1) w.heap.size 0 0 0 ∧ Below w.heap.size w w' := by
  go_enter Tryz.func30, Tryz.ntmps30
  go_wp2_with fail
  refine (blockNew _).mono ?_
  rintro e w1 ⟨rfl, rfl⟩
  go_wp2
  go_ret
  refine ⟨rfl, ⟨?_, ?_, by omega⟩, by go_grown⟩
  · exact objNew (by simp)
  · exact ObjAt.alloc (ObjAt.new _ _ _) _

theorem IssAt.below {w w' : World} {b bb : Nat} {n m many : Int} (h : IssAt w b bb n m many) (hb : Below w.heap.size w w') : IssAt w' b bb n m many := ⟨h.1.below hb, ObjAt.below h.2.1 hb, h.2.2⟩

theorem issue_bad (b : Nat) (e k o u c : Int) (w : World) (hc : tkmE e k o 0 u = c) (h0 : c ≠ 0) :
    Calls Tryz.prog 108 #[.pointer (some ⟨b, 0, none⟩), .agg #[.int .i64 e, .int .i64 k, .int .i64 o], .int .i64 u] w fun r w' => r = .returned (.tuple #[.agg #[.int .i64 0, .int .i64 0, .int .i64 0, .int .i64 0], errV c]) ∧ Below w.heap.size w w' := by
  by_cases hr : ringE e k o = 0
  · have C : Hid (∀ W, Calls Tryz.prog 110 #[.agg #[.int .i64 e, .int .i64 k, .int .i64 o]] W fun r w' => r = .returned .nilIface ∧ Below W.heap.size W w') := ringCheck_eq (c := 0) hr
    have hh : tmB u = false ∧ c = 1 := by
      unfold tkmE at hc
      rw [if_neg (by simp [hr])] at hc
      cases h : tmB u
      · rw [h] at hc; exact ⟨rfl, by simpa using hc.symm⟩
      · rw [h] at hc; exact absurd (by simpa [inB] using hc.symm) h0
    obtain ⟨hu, rfl⟩ := hh
    have T := hide (fun W => tokenTime_eq hu W)
    clear hr hu hc h0
    go_enter Tryz.func108, Tryz.ntmps108
    go_wp2_with fail
    refine (C.out _).mono ?_
    rintro e1 w1 ⟨rfl, hb1⟩
    have hB1 := bel_a2 hb1
    have hz1 : w.heap.size < w1.heap.size := by have := hb1.size; simp at this; omega
    have hz2 : w.heap.size + 1 < w1.heap.size := by have := hb1.size; simp at this; omega
    obtain ⟨c1, d1⟩ := bcell hb1
    go_wp2_with fail
    refine (T.out _).mono ?_
    rintro e2 w2 ⟨rfl, rfl⟩
    go_wp2
    exact bodyPost_ret (v := .tuple #[.agg #[.int .i64 0, .int .i64 0, .int .i64 0, .int .i64 0], .iface 82 (.int .i64 1)]) (by simp [results, Tryz.results108, go_sem, *]) rfl ⟨rfl, by go_grown⟩
  · have e1 : ringE e k o = c := by unfold tkmE at hc; rwa [if_pos hr] at hc
    have C := hide (fun W => ringCheck_eq e1 W)
    have t1 : (c != 0) = true := bne_iff_ne.2 h0
    clear hr e1 hc h0
    go_enter Tryz.func108, Tryz.ntmps108
    go_wp2_with fail
    refine (C.out _).mono ?_
    rintro e1 w1 ⟨rfl, hb1⟩
    have hB1 := bel_a2 hb1
    have hz1 : w.heap.size < w1.heap.size := by have := hb1.size; simp at this; omega
    have hz2 : w.heap.size + 1 < w1.heap.size := by have := hb1.size; simp at this; omega
    obtain ⟨c1, d1⟩ := bcell hb1
    go_wp2
    exact bodyPost_ret (v := .tuple #[.agg #[.int .i64 0, .int .i64 0, .int .i64 0, .int .i64 0], errV c]) (by simp [results, Tryz.results108, go_sem, *]) rfl ⟨rfl, by go_grown⟩
set_option maxHeartbeats 1000000 in
theorem issue_full (b bb : Nat) (e k o u n many : Int) (w : World) (h : IssAt w b bb n n many) (hr : ringE e k o = 0) (hu : tmB u = true) (h0 : 0 ≤ n) (h1 : n ≤ 1000) (h2 : 1000 < n + 8) :
    Calls Tryz.prog 108 #[.pointer (some ⟨b, 0, none⟩), .agg #[.int .i64 e, .int .i64 k, .int .i64 o], .int .i64 u] w fun r w' => r = .returned (.tuple #[.agg #[.int .i64 0, .int .i64 0, .int .i64 0, .int .i64 0], .iface 82 (.int .i64 4)]) ∧ IssAt w' b bb n n many ∧ Kept [b, bb] w w' := by
  obtain ⟨hI, hK, hne⟩ := h
  have C : Hid (∀ W, Calls Tryz.prog 110 #[.agg #[.int .i64 e, .int .i64 k, .int .i64 o]] W fun r w' => r = .returned .nilIface ∧ Below W.heap.size W w') := ringCheck_eq (c := 0) hr
  have T := hide (fun W => tokenTime_eq hu W)
  have hbl := ObjAt.lt hI
  have hkl := ObjAt.lt hK
  go_enter Tryz.func108, Tryz.ntmps108
  go_wp2_with fail
  refine (C.out _).mono ?_
  rintro e1 w1 ⟨rfl, hb1⟩
  have hB1 := bel_a2 hb1
  have hz1 : w.heap.size < w1.heap.size := by have := hb1.size; simp at this; omega
  have hz2 : w.heap.size + 1 < w1.heap.size := by have := hb1.size; simp at this; omega
  have r1 : ObjAt w1 w.heap.size 52 [.int .i64 e, .int .i64 k, .int .i64 o] := ObjAt.below (ObjAt.alloc (ObjAt.new _ _ _) _) hb1
  have r2 : ObjAt w1 (w.heap.size + 1) 67 [.int .i64 0, .int .i64 0, .int .i64 0, .int .i64 0] := ObjAt.below (objNew (by simp)) hb1
  have hI1 := ObjAt.below hI hB1
  have hK1 : BlkAt w1 bb n n := ObjAt.below hK hB1
  have q0 := hI1.cell (i := 0) rfl
  have HI1 := hide hI1
  have HK1 := hide hK1
  have R1 := hide r1
  have R2 := hide r2
  clear hb1 r1 r2 hI1 hK1 hI hK
  go_wp2_with fail
  refine (T.out _).mono ?_
  rintro e2 w2 ⟨rfl, rfl⟩
  go_wp2_with fail
  refine (blockNext_full bb n _ HK1.out h0 h1 h2).mono ?_
  rintro e3 w3 ⟨rfl, hK3, hk3⟩
  have hz3 := hk3.size
  have r3 := hk3.obj R2.out (by simp; omega)
  have hI3 := hide (hk3.obj HI1.out (by simpa using hne))
  have p0 := r3.cell (i := 0) rfl
  have p1 := r3.cell (i := 1) rfl
  have p2 := r3.cell (i := 2) rfl
  have p3 := r3.cell (i := 3) rfl
  have g0 := r3.free 0
  have g1 := r3.free 1
  have g2 := r3.free 2
  have g3 := r3.free 3
  have hKp : Kept [b, bb] w w3 := (Kept.of_below hB1 [b, bb]).trans (hk3.mono (by simp))
  have HKp := hide hKp
  have HK3 := hide hK3
  clear hk3 hK3 hKp R1 R2 HI1 HK1 r3
  go_wp2
  refine bodyPost_ret (v := .tuple #[.agg #[.int .i64 0, .int .i64 0, .int .i64 0, .int .i64 0], .iface 82 (.int .i64 4)]) (by simp [results, Tryz.results108, go_sem, *]) rfl ⟨rfl, ?_, ?_⟩
  · exact ⟨ObjAt.other4 hI3.out (by omega), ObjAt.other4 HK3.out (by omega), hne⟩
  · exact HKp.out.new4 (.inr (by omega))

set_option maxHeartbeats 1000000 in
theorem issue_ok (b bb : Nat) (e k o u n m v n' m' many : Int) (w : World) (h : IssAt w b bb n m many) (hr : ringE e k o = 0) (hu : tmB u = true) (h0 : 0 ≤ n) (h1 : n ≤ m) (h2 : m ≤ 1000) (hbn : blkNext n m = (v, 0, n', m')) (hm : 0 ≤ many ∧ many ≤ 100000) :
    Calls Tryz.prog 108 #[.pointer (some ⟨b, 0, none⟩), .agg #[.int .i64 e, .int .i64 k, .int .i64 o], .int .i64 u] w fun r w' => r = .returned (.tuple #[.agg #[.int .i64 e, .int .i64 v, .int .i64 u, .int .i64 (tagOf k [2, v, u])], .nilIface]) ∧ IssAt w' b bb n' m' (many + 1) ∧ Kept [b, bb] w w' := by
  have hv : v = n := by
    unfold blkNext at hbn
    split at hbn
    · split at hbn <;> simp only [Prod.mk.injEq] at hbn <;> omega
    · simp only [Prod.mk.injEq] at hbn; omega
  obtain ⟨_, hk, _, _⟩ := ringE_ok hr
  have N : Hid (∀ W, BlkAt W bb n m → Calls Tryz.prog 131 #[.pointer (some ⟨bb, 0, none⟩)] W fun e w' => e = .returned (.tuple #[.int .i64 v, .nilIface]) ∧ BlkAt w' bb n' m' ∧ Kept [bb] W w') := by
    intro W hW
    have g := blockNext bb n m W hW h0 h1 h2
    rw [hbn] at g
    exact g
  have M := hide (fun W => ticketMade (e := e) (k := k) (o := o) (n := v) (u := u) hk (by omega) (tmB_true.1 hu) W)
  obtain ⟨hm0, hm1⟩ := hm
  clear hbn hv
  obtain ⟨hI, hK, hne⟩ := h
  have C : Hid (∀ W, Calls Tryz.prog 110 #[.agg #[.int .i64 e, .int .i64 k, .int .i64 o]] W fun r w' => r = .returned .nilIface ∧ Below W.heap.size W w') := ringCheck_eq (c := 0) hr
  have T := hide (fun W => tokenTime_eq hu W)
  have hbl := ObjAt.lt hI
  have hkl := ObjAt.lt hK
  go_enter Tryz.func108, Tryz.ntmps108
  go_wp2_with fail
  refine (C.out _).mono ?_
  rintro e1 w1 ⟨rfl, hb1⟩
  have hB1 := bel_a2 hb1
  have hz1 : w.heap.size < w1.heap.size := by have := hb1.size; simp at this; omega
  have hz2 : w.heap.size + 1 < w1.heap.size := by have := hb1.size; simp at this; omega
  have r1 : ObjAt w1 w.heap.size 52 [.int .i64 e, .int .i64 k, .int .i64 o] := ObjAt.below (ObjAt.alloc (ObjAt.new _ _ _) _) hb1
  have r2 : ObjAt w1 (w.heap.size + 1) 67 [.int .i64 0, .int .i64 0, .int .i64 0, .int .i64 0] := ObjAt.below (objNew (by simp)) hb1
  have hI1 := ObjAt.below hI hB1
  have hK1 : BlkAt w1 bb n m := ObjAt.below hK hB1
  have q0 := hI1.cell (i := 0) rfl
  have HI1 := hide hI1
  have HK1 := hide hK1
  have R1 := hide r1
  have R2 := hide r2
  clear hb1 r1 r2 hI1 hK1 hI hK
  go_wp2_with fail
  refine (T.out _).mono ?_
  rintro e2 w2 ⟨rfl, rfl⟩
  go_wp2_with fail
  refine (N.out _ HK1.out).mono ?_
  rintro e3 w3 ⟨rfl, hK3, hk3⟩
  have hz3 := hk3.size
  have r3 := hk3.obj R2.out (by simp; omega)
  have r4 := hk3.obj R1.out (by simp; omega)
  have hI3 := hk3.obj HI1.out (by simpa using hne)
  have s0 := hI3.cell (i := 0) rfl
  have s1 := hI3.cell (i := 1) rfl
  have s2 := hI3.free 1
  have p0 := r4.cell (i := 0) rfl
  have p1 := r4.cell (i := 1) rfl
  have p2 := r4.cell (i := 2) rfl
  have hKp : Kept [b, bb] w w3 := (Kept.of_below hB1 [b, bb]).trans (hk3.mono (by simp))
  have HKp := hide hKp
  have HK3 := hide hK3
  have HI3 := hide hI3
  have R3 := hide r3
  clear hk3 hK3 hKp R1 R2 HI1 HK1 r3 r4 hI3 q0
  go_wp2_with fail
  refine (M.out _).mono ?_
  rintro e4 w4 ⟨rfl, hb4⟩
  have hz4 := hb4.size
  have hz5 : w3.heap.size ≤ w4.heap.size := by simpa using hz4
  have r5 := ObjAt.below (ObjAt.setOther R3.out (a := ⟨b, 1, none⟩) (by simp; omega) (.int .i64 (many + 1))) hb4
  have hI4 := ObjAt.below (ObjAt.set HI3.out 1 (.int .i64 (many + 1))) hb4
  have hK4 : BlkAt w4 bb n' m' := ObjAt.below (ObjAt.setOther HK3.out (a := ⟨b, 1, none⟩) (fun h => hne h.symm) (.int .i64 (many + 1))) hb4
  have hKp4 := (HKp.out.setCell (p := ⟨b, 1, none⟩) (.inl (by simp)) (.int .i64 (many + 1))).trans (Kept.of_below hb4 _)
  have HI4 := hide hI4
  have HK4 := hide hK4
  have HKp4 := hide hKp4
  have x0 := r5.cell (i := 0) rfl
  have x1 := r5.cell (i := 1) rfl
  have x2 := r5.cell (i := 2) rfl
  have x3 := r5.cell (i := 3) rfl
  have g0 := r5.free 0
  have g1 := r5.free 1
  have g2 := r5.free 2
  have g3 := r5.free 3
  clear hb4 hz4 r5 hI4 hK4 hKp4 HI3 HK3 HKp R3 p0 p1 p2 s0 s1 s2
  go_wp2
  refine bodyPost_ret (v := .tuple #[.agg #[.int .i64 e, .int .i64 v, .int .i64 u, .int .i64 (tagOf k [2, v, u])], .nilIface]) (by simp [results, Tryz.results108, go_sem, *]) rfl ⟨rfl, ?_, ?_⟩
  · exact ⟨ObjAt.other4 HI4.out (by omega), ObjAt.other4 HK4.out (by omega), hne⟩
  · exact HKp4.out.new4 (.inr (by omega))
end Go.Proofs.YtlnghfmcofmkjaaGreatDoor

namespace Go.Proofs.YtlnghfmcofmkjaaGreatDoor
open Go.RowKit

set_option maxRecDepth 100000 in
set_option maxHeartbeats 8000000 in
theorem spDelete (B : Nat) (p : Int × Int → Bool) (g : Nat) (lb : Array Value) (eg : ∀ args w, (callFunc g args).run Tryz.prog w = .ok (.enter g args) w) (v : Value) (zs : List (Int × Int)) (w : World) (hl : zs.length ≤ 1000)
    (hown : w.ownsRow B 173 2 v zs.length (flat zs)) (hB : B ≤ w.heap.size) (hp : PredO B g lb p w) :
    Calls Tryz.prog 164 #[v, .func (.func g) #[] lb] w fun e w' => ∃ v', e = .returned v' ∧ w'.ownsRow B 173 2 v' (zs.filter fun x => !p x).length (flat (zs.filter fun x => !p x)) ∧ Below B w w' := by
  have CI := hide (spIndexFunc p g lb eg v zs w (own_psl hown hl) (fun W x hb => hp W x (hb.mono hB)))
  have HP := hide hp
  clear hp
  rcases idxP_cases p zs with ⟨e1, hall⟩ | ⟨k, hk, e1, hpk, hall⟩
  · rw [e1] at CI
    have e2 : (zs.filter fun x => !p x) = zs := by
      rw [List.filter_eq_self]
      intro x hx
      obtain ⟨j, hj, rfl⟩ := List.mem_iff_getElem.1 hx
      have := hall j hj
      simpa [List.getD, List.getElem?_eq_getElem hj] using this
    rw [e2]
    have Hown := hide hown
    clear hown hall e1 e2
    go_enter Tryz.func164, Tryz.ntmps164
    go_wp2_with fail
    refine CI.out.mono ?_
    rintro e w1 ⟨rfl, hb1⟩
    go_wp2
    go_ret
    exact ⟨v, rfl, own_below Hown.out hb1, hb1.mono hB⟩
  · rw [e1] at CI
    obtain ⟨gb, cap, rfl, hgB, hgl, hnc, hcm⟩ := own_form hown (by omega)
    unfold maxLen at hcm
    obtain ⟨n, hn⟩ : ∃ n, n = zs.length := ⟨_, rfl⟩
    have hinv0 : dfInv (fun x => !p x) zs (flat zs) k (k + 1) := dfInv.start hk (fun j hj => by show (!p _) = true; rw [hall j hj]; rfl) (by show (!p _) = false; rw [hpk]; rfl)
    have HI0 := hide hinv0
    rw [← hn] at hown CI hnc hl hk ⊢
    have Hn := hide hn
    have Hown := hide hown
    have tk : ((k : Int) == -1) = false := beq_eq_false_iff_ne.2 (by omega)
    clear hown hall e1 hpk hinv0 hn
    go_enter Tryz.func164, Tryz.ntmps164
    go_wp2_with fail
    refine CI.out.mono ?_
    rintro e w1 ⟨rfl, hb1⟩
    have H1 := hide (own_below Hown.out hb1)
    have HB1 := hide (hb1.mono hB)
    have hs1 : gb < w1.heap.size := Nat.lt_of_lt_of_le hgl hb1.size
    clear CI hb1 Hown
    go_wp2_with fail
    go_loopw [5, 6] (fun si sj wr => ∃ (i j : Nat) (xs : List Value), si = .int .i64 (i : Int) ∧ sj = .int .i64 (j : Int) ∧ k + 1 ≤ j ∧ j ≤ n ∧ i < j ∧ Hid (dfInv (fun x => !p x) zs xs i j) ∧ wr.ownsRow B 173 2 (.slice (some ⟨gb, 0, none⟩) n cap) n xs ∧ gb < wr.heap.size ∧ Below B w wr) (fun _ sj _ => 2000 - (intOf sj).toNat)
    case atStart => exact ⟨k, k + 1, flat zs, rfl, by go_num, by omega, by omega, by omega, HI0, H1.out, hs1, HB1.out⟩
    case round =>
      obtain ⟨i, j, xs, rfl, rfl, hj1, hj2, hij, hinv, hown, hgw, hbw⟩ := hrel
      clear HI0 H1 HB1 hs1
      have hxl : xs.length = zs.length * 2 := by have := hown.1; rw [← Hn.out]; exact this
      have Hxl := hide hxl
      have HO := hide hown
      have HBW := hide hbw
      clear hxl
      by_cases hlt : j < n
      · have hjz : j < zs.length := by rw [← Hn.out]; exact hlt
        obtain ⟨g0, g1⟩ := flat_get zs j hjz
        have q0 : wr.cell? ⟨gb, j * 2, none⟩ = some (.int .i64 (zs.getD j (0, 0)).1) := (hown.cellAt (j * 2) (by omega)).trans ((hinv.out.2.2 (j * 2) (by omega) (by omega)).trans g0)
        have q1 : wr.cell? ⟨gb, j * 2 + 1, none⟩ = some (.int .i64 (zs.getD j (0, 0)).2) := (hown.cellAt (j * 2 + 1) (by omega)).trans ((hinv.out.2.2 (j * 2 + 1) (by omega) (by omega)).trans g1)
        obtain ⟨y, hy⟩ : ∃ y, y = zs.getD j (0, 0) := ⟨_, rfl⟩
        rw [← hy] at q0 q1
        have HY := hide hy
        have HJ := hide hjz
        clear hy g0 g1 hjz
        obtain ⟨y1, y2⟩ := y
        simp only at q0 q1
        have HC := hide (HP.out (wr.alloc (.cells #[.int .i64 y1, .int .i64 y2] 173)) (y1, y2) (hbw.alloc (by omega) _))
        clear hown hbw
        have hiz : i * 2 + 1 < n * 2 := by omega
        cases hq : p (y1, y2)
        · rw [hq] at HC
          have Hq := hide hq
          clear hq
          go_wp2_with fail
          refine HC.out.mono ?_
          rintro e w2 ⟨rfl, hb2⟩
          have o2 : ObjAt w2 wr.heap.size 173 [.int .i64 y1, .int .i64 y2] := ObjAt.below (ObjAt.new _ _ _) hb2
          have t0 := o2.cell (i := 0) rfl
          have t1 := o2.cell (i := 1) rfl
          have hown2 := own_below (HO.out.alloc (.cells #[.int .i64 y1, .int .i64 y2] 173)) hb2
          have f0 := hown2.frozenAt (i * 2)
          have f1 := hown2.frozenAt (i * 2 + 1)
          obtain ⟨z0, c0⟩ : ∃ z, w2.cell? ⟨gb, i * 2, none⟩ = some z := ⟨_, (hown2.cellAt (i * 2) (by omega)).trans (List.getElem?_eq_getElem (by rw [Hxl.out, ← Hn.out]; omega))⟩
          obtain ⟨z1, c1⟩ : ∃ z, w2.cell? ⟨gb, i * 2 + 1, none⟩ = some z := ⟨_, (hown2.cellAt (i * 2 + 1) (by omega)).trans (List.getElem?_eq_getElem (by rw [Hxl.out, ← Hn.out]; omega))⟩
          have hg2 : gb < w2.heap.size := by have := hb2.size; simp at this; omega
          have HB2 := hide (Below.trans (HBW.out.alloc (by have := HBW.out.size; omega) _) (hb2.mono (by have := HBW.out.size; simp; omega)))
          have HO2 := hide hown2
          have hne : gb ≠ wr.heap.size := by omega
          clear o2 hown2 hb2 HC HO HBW
          go_wp2
          go_roundw
          case rel =>
            refine ⟨i + 1, j + 1, _, by go_num, by go_num, by omega, by omega, by omega, hide ?_, ((HO2.out.stored (i * 2) _).1.stored (i * 2 + 1) _).1, by simpa using hg2, (HB2.out.setCell hgB _).setCell hgB _⟩
            have := hinv.out.keep Hxl.out HJ.out (by show (!p _) = true; rw [← HY.out, Hq.out]; rfl)
            rwa [← HY.out] at this
          case measure => simp [intOf] <;> omega
        · rw [hq] at HC
          have Hq := hide hq
          clear hq
          go_wp2_with fail
          refine HC.out.mono ?_
          rintro e w2 ⟨rfl, hb2⟩
          have HO2 := hide (own_below (HO.out.alloc (.cells #[.int .i64 y1, .int .i64 y2] 173)) hb2)
          have hg2 : gb < w2.heap.size := by have := hb2.size; simp at this; omega
          have HB2 := hide (Below.trans (HBW.out.alloc (by have := HBW.out.size; omega) _) (hb2.mono (by have := HBW.out.size; simp; omega)))
          clear hb2 HC HO HBW
          go_wp2
          go_roundw
          case rel => exact ⟨i, j + 1, xs, rfl, by go_num, by omega, by omega, by omega, hide (hinv.out.skip HJ.out (by show (!p _) = false; rw [← HY.out, Hq.out]; rfl)), HO2.out, hg2, HB2.out⟩
          case measure => simp [intOf] <;> omega
      · obtain rfl : j = n := by omega
        have hic : i < cap := by omega
        have hcl : ∀ ty, (Builtin.clear_ #[58] ty #[.slice (some ⟨gb, i * 2, none⟩) (j - i) (cap - i)]).run Tryz.prog wr = .ok (.tuple #[]) (wr.setCells gb (i * 2) (List.replicate ((j - i) * 2) (.int .i64 0))) := fun ty =>
          run_clear_pairs wr _ _ ty Tryz.underlying58 Tryz.zeroSp gb (i * 2) (j - i) (cap - i) (by omega) (fun t ht => by rw [hown.cellAt (i * 2 + t) (by omega), List.getElem?_eq_getElem (by rw [Hxl.out, ← Hn.out]; omega)]; rfl) (fun t _ => hown.frozenAt _)
        clear hown hbw
        go_wp2
        go_ret
        obtain ⟨ys, h1, h2⟩ := own_setCells (List.replicate ((j - i) * 2) (.int .i64 0)) (i * 2) wr xs HO.out
        have e3 : (zs.take j).filter (fun x => !p x) = zs.filter (fun x => !p x) := by rw [Hn.out, List.take_length]
        have hh := hinv.out
        refine ⟨_, rfl, ?_, below_setCells hgB _ _ _ HBW.out⟩
        rw [← e3, ← hh.1]
        refine own_cut h1 (by omega) ?_
        rw [← hh.2.1]
        apply List.ext_getElem?
        intro t
        by_cases ht : t < i * 2
        · rw [List.getElem?_take_of_lt ht, List.getElem?_take_of_lt ht, h2 t ht]
        · rw [List.getElem?_eq_none (by simp; omega), List.getElem?_eq_none (by simp; omega)]
/-- the closure of left: is it over? -/
theorem spLeftPred (now : Int) (b B : Nat) (w : World) (hb : b < B) (hB : B ≤ w.heap.size) (hcell : w.cell? ⟨b, 0, none⟩ = some (.int .i64 now)) :
    PredO B 165 #[.pointer (some ⟨b, 0, none⟩)] (fun x => decide (x.2 < now)) w := fun W x hbw => by
  have hc : W.cell? ⟨b, 0, none⟩ = some (.int .i64 now) := (hbw.cell (p := ⟨b, 0, none⟩) hb).trans hcell
  have hBW : b < W.heap.size := by have := hbw.size; omega
  have hne : b ≠ W.heap.size := by omega
  show Calls Tryz.prog 165 #[.agg #[.int .i64 x.1, .int .i64 x.2], .pointer (some ⟨b, 0, none⟩)] W _
  obtain ⟨x1, x2⟩ := x
  clear hcell
  go_enter Tryz.func165, Tryz.ntmps165
  go_wp2
  all_goals (go_ret; exact ⟨by simp_all, by go_grown⟩)
/-- those that are not over -/
def spDrop (zs : List (Int × Int)) (now : Int) : List (Int × Int) := zs.filter fun x => !decide (x.2 < now)
theorem spLeft (now : Int) (v : Value) (zs : List (Int × Int)) (w : World) (hv : PSl w v zs) :
    Calls Tryz.prog 160 #[v, .int .i64 now] w fun e w' => ∃ v', e = .returned v' ∧ w'.ownsRow (w.heap.size + 1) 173 2 v' (spDrop zs now).length (flat (spDrop zs now)) ∧ Below w.heap.size w w' := by
  have eg : ∀ args w, (callFunc 165 args).run Tryz.prog w = .ok (.enter 165 args) w := enters_of Tryz.func165 (by kernel_rfl) rfl
  have hl := hv.1
  have C := hide (spClone v zs (w.alloc (.cells #[.int .i64 now] 3)) (hv.below ((Below.refl _ _).alloc (Nat.le_refl _) _)))
  clear hv
  go_enter Tryz.func160, Tryz.ntmps160
  go_wp2_with fail
  refine C.out.mono ?_
  rintro e w1 ⟨v1, rfl, hown1, hb1⟩
  have hb1' : Below (w.heap.size + 1) (w.alloc (.cells #[.int .i64 now] 3)) w1 := by simpa using hb1
  have hown1' : w1.ownsRow (w.heap.size + 1) 173 2 v1 zs.length (flat zs) := by simpa using hown1
  have hs1 : w.heap.size + 1 ≤ w1.heap.size := by have := hb1.size; simpa using this
  have hcell : w1.cell? ⟨w.heap.size, 0, none⟩ = some (.int .i64 now) := (hb1'.cell (p := ⟨w.heap.size, 0, none⟩) (by simp)).trans (by simp)
  have D := hide (spDelete (w.heap.size + 1) (fun x => decide (x.2 < now)) 165 #[.pointer (some ⟨w.heap.size, 0, none⟩)] eg v1 zs w1 hl hown1' hs1 (spLeftPred now w.heap.size (w.heap.size + 1) w1 (by omega) hs1 hcell))
  have HB := hide hb1
  clear hb1 hb1' hown1 hown1' hcell
  go_wp2_with fail
  refine D.out.mono ?_
  rintro e w2 ⟨v2, rfl, hown2, hb2⟩
  go_wp2
  go_ret
  exact ⟨v2, rfl, hown2, (bel_a1 HB.out).trans (hb2.mono (by omega))⟩
end Go.Proofs.YtlnghfmcofmkjaaGreatDoor
