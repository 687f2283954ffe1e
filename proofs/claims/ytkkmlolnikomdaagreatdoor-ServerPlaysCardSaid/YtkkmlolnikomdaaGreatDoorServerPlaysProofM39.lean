/- ServerPlays: turn, pull, how many wait. Opening a hello that came in. Opening a slice of hellos that came in. -/
import Derived.Test.YtkkmlolnikomdaaGreatDoorPlaysP
import Derived.Test.YtkkmlolnikomdaaGreatDoorProg
import Derived.Test.YtkkmlolnikomdaaGreatDoorOpen
namespace Go.Proofs.YtkkmlolnikomdaaGreatDoor
open Go.RowKit

theorem PA.ring {w : World} {B b r : Nat} {li : Int} {A C : Vals} {bx : List Nat} (h : PA w B b r li A C bx) : (w.cell? ⟨r, 0, none⟩ = some (.int .i64 C.e) ∧ w.cell? ⟨r, 1, none⟩ = some (.int .i64 C.k) ∧ w.cell? ⟨r, 2, none⟩ = some (.int .i64 C.o)) ∧ (w.frozen? ⟨r, 0, none⟩ = false ∧ w.frozen? ⟨r, 1, none⟩ = false ∧ w.frozen? ⟨r, 2, none⟩ = false) := by
  obtain ⟨F, G, _, ⟨v, vn, vk, h1, _⟩, _⟩ := h
  exact ⟨⟨h1.q.1.cell (i := 0) rfl, h1.q.1.cell (i := 1) rfl, h1.q.1.cell (i := 2) rfl⟩, h1.q.1.free 0, h1.q.1.free 1, h1.q.1.free 2⟩
theorem PA.que {w : World} {B b r : Nat} {li : Int} {A C : Vals} {bx : List Nat} (h : PA w B b r li A C bx) : ∃ a c, w.cell? ⟨r, 4, none⟩ = some (.slice a C.zs.length c) := by
  obtain ⟨F, G, _, ⟨v, vn, vk, h1, _⟩, _⟩ := h
  obtain ⟨a, c, rfl⟩ := qrow_form h1.q.2.1
  exact ⟨a, c, h1.q.1.cell (i := 4) rfl⟩
theorem PA.que1 {w : World} {B b r : Nat} {li : Int} {A C : Vals} {bx : List Nat} (h : PA w B b r li A C bx) {x : Int × Int} {l : List (Int × Int)} (hz : C.zs = x :: l) : ∃ g o c, w.cell? ⟨r, 4, none⟩ = some (.slice (some ⟨g, o, none⟩) (l.length + 1) c) ∧ w.cell? ⟨g, o, none⟩ = some (.int .i64 x.1) ∧ w.cell? ⟨g, o + 1, none⟩ = some (.int .i64 x.2) := by
  obtain ⟨F, G, _, ⟨v, vn, vk, h1, _⟩, _⟩ := h
  obtain ⟨_, ⟨h0, _⟩ | ⟨g, off, cap, hv, h2, h3, h4, h5, h6⟩⟩ := h1.q.2.1
  · rw [hz] at h0; cases h0
  · have hc : w.cell? ⟨r, 4, none⟩ = some v := h1.q.1.cell (i := 4) rfl
    have hl : C.zs.length = l.length + 1 := by rw [hz]; rfl
    obtain ⟨p0, p1⟩ := h5 0 (by omega)
    rw [hz] at p0 p1
    exact ⟨g, off, cap, by rw [hc, hv, hl], by simpa using p0, by simpa using p1⟩
theorem PA.wait {w : World} {B b r : Nat} {li : Int} {A C : Vals} {bx : List Nat} (h : PA w B b r li A C bx) : Calls Tryz.prog 19 #[.pointer (some ⟨b, 0, none⟩)] w fun x w' => x = .returned (.int .i64 (A.zs.length : Int)) ∧ Below w.heap.size w w' := by
  obtain ⟨F, G, ⟨q, bi, bb, bv, v, va, vb, h1, _⟩, _⟩ := h
  exact sWaiting w h1.sq
theorem RV.out {w w' : World} {b : Nat} {e k o li n m cn : Int} {v v' vn vk : Value} {zs ns z1 z2 : List (Int × Int)} (h : RV w b e k o li n m cn v vn vk zs z1 z2) (hq : RQ (rvC e k o li n m cn vn vk) w' b v' ns) (hr : v'.ownBlock = none ∨ ∃ g, v'.ownBlock = some g ∧ w.heap.size ≤ g) (hk : Kept [b] w w') :
    RV w' b e k o li n m cn v' vn vk ns z1 z2 ∧ SVst (rvF b v vn vk) (rvF b v' vn vk) w w' := by
  have hz := hk.size
  have hin : ∀ g, v'.ownBlock = some g → w.heap.size ≤ g := fun g hg => by
    rcases hr with e' | ⟨g', e', h1⟩
    · rw [hg] at e'; cases e'
    · rw [hg] at e'; have := Option.some.inj e'; omega
  refine ⟨{ q := hq, now := h.now.kept hk (fun x hx e' => by simp at hx; subst hx; exact (h.dn _ (.inl e')).2.1 rfl), kep := h.kep.kept hk (fun x hx e' => by simp at hx; subst hx; exact (h.dn _ (.inr e')).2.1 rfl), dn := fun g hg => ?_ }, ⟨hk.mono (fun x hx => by simp at hx; rw [hx]; exact mem_rvF.2 (.inl rfl)), fun x hx => ?_⟩⟩
  · obtain ⟨h1, h2, h3⟩ := h.dn g hg
    exact ⟨by omega, h2, fun e' => by have := hin g e'; omega⟩
  · rcases mem_rvF.1 hx with rfl | e2 | e2
    · exact .inl (mem_rvF.2 (.inl rfl))
    · exact .inr (hin x e2)
    · exact .inl (mem_rvF.2 (.inr (.inr e2)))
/-- the ring turned -/
theorem pl_turn {B b r : Nat} {li : Int} {A : Vals} {t : Nat} (hI : PI li A t) :
    (∃ (t1 t2 t3 : Int) (C : Vals), PI li C (t + 1) ∧ (∀ W, Calls Tryz.prog 11 #[.agg #[.int .i64 A.e, .int .i64 A.k, .int .i64 A.o]] W fun x w' => x = .returned (.tuple #[.agg #[.int .i64 t1, .int .i64 t2, .int .i64 t3], .int .i64 0]) ∧ Below W.heap.size W w') ∧
      (∀ W bx, PA W B b r li A A bx → PA (((W.setCell ⟨r, 0, none⟩ (.int .i64 t1)).setCell ⟨r, 1, none⟩ (.int .i64 t2)).setCell ⟨r, 2, none⟩ (.int .i64 t3)) B b r li A C bx ∧ FrB bx W (((W.setCell ⟨r, 0, none⟩ (.int .i64 t1)).setCell ⟨r, 1, none⟩ (.int .i64 t2)).setCell ⟨r, 2, none⟩ (.int .i64 t3)) ∧ Below B W (((W.setCell ⟨r, 0, none⟩ (.int .i64 t1)).setCell ⟨r, 1, none⟩ (.int .i64 t2)).setCell ⟨r, 2, none⟩ (.int .i64 t3))) ∧
      GoR 12 #[.pointer (some ⟨b, 0, none⟩)] B b r li A C C (errV 0)) ∨
    ((∀ W, Calls Tryz.prog 11 #[.agg #[.int .i64 A.e, .int .i64 A.k, .int .i64 A.o]] W fun x w' => x = .returned (.tuple #[.agg #[.int .i64 0, .int .i64 0, .int .i64 0], .int .i64 4]) ∧ Below W.heap.size W w') ∧
      GoR 12 #[.pointer (some ⟨b, 0, none⟩)] B b r li A A A (errV 4)) := by
  have hI' := hI.more
  obtain ⟨hr, hli, h8, hlt, hcn, hnm, hmy, hz1, hz2⟩ := hI
  obtain ⟨h1, _, _, _⟩ := ringE_ok hr
  by_cases he : A.e < 100
  · refine .inl ⟨A.e + 1, tagOf A.k [A.e + 1], A.k, { A with e := A.e + 1, k := tagOf A.k [A.e + 1], o := A.k }, ⟨ringTurn_right hr he, hI'.2.1, hI'.2.2.1, hI'.2.2.2.1, hI'.2.2.2.2.1, hI'.2.2.2.2.2.1, hI'.2.2.2.2.2.2.1, hI'.2.2.2.2.2.2.2.1, hI'.2.2.2.2.2.2.2.2⟩, fun W => rTurn_ok hr he W, ?_, goR_step ?_⟩
    · rintro W bx ⟨F, G, k1, ⟨v, vn, vk, k2, rfl⟩, k3, k4, k5, k6⟩
      have hk : Kept [r] W (((W.setCell ⟨r, 0, none⟩ (.int .i64 (A.e + 1))).setCell ⟨r, 1, none⟩ (.int .i64 (tagOf A.k [A.e + 1]))).setCell ⟨r, 2, none⟩ (.int .i64 A.k)) := (((Kept.refl _ _).setCell (.inl (by simp)) _).setCell (.inl (by simp)) _).setCell (.inl (by simp)) _
      have hs := k2.own (e' := A.e + 1) (k' := tagOf A.k [A.e + 1]) (o' := A.k) (n' := A.n) (m' := A.m) (cn' := A.cn) (((k2.q.1.set 0 _).set 1 _).set 2 _) hk (.inl ⟨rfl, rfl⟩) (.inl ⟨rfl, rfl⟩) ⟨rfl, rfl⟩
      exact PA.stepG k1 k3 k4 k5 k6 ⟨v, vn, vk, hs.1, rfl⟩ hs.2
    · rintro W F ⟨q, bi, bb, bv, v, va, vb, h1, rfl⟩ hB
      refine (svTurn_ok hr he W hB h1).mono ?_
      rintro x w' ⟨rfl, hs, hst⟩
      exact ⟨rfl, _, ⟨q, bi, bb, bv, v, va, vb, hs, rfl⟩, hst⟩
  · have he' : A.e = 100 := by omega
    refine .inr ⟨fun W => ?_, goR_below ?_⟩
    · rw [he']; exact rTurn_full W
    · rintro W F ⟨q, bi, bb, bv, v, va, vb, h1, _⟩
      rw [he'] at h1 hr
      exact svTurn_full hr W h1
/-- nobody waits -/
theorem pl_pull0 {B b r : Nat} {li : Int} {A : Vals} (hz : A.zs = []) : GoR 16 #[.pointer (some ⟨b, 0, none⟩)] B b r li A A A (.tuple #[.agg #[.int .i64 0, .int .i64 0], errV 5]) := by
  refine goR_below ?_
  rintro W F ⟨q, bi, bb, bv, v, va, vb, h1, _⟩
  rw [hz] at h1
  exact sPull_none W h1.sq
/-- the first is pulled -/
theorem pl_pull1 {B b r : Nat} {li : Int} {A : Vals} {t : Nat} (hI : PI li A t) {x : Int × Int} {l : List (Int × Int)} (hz : A.zs = x :: l) : ∃ C, PI li C (t + 1) ∧
    GoG 15 #[.pointer (some ⟨r, 4, none⟩), .int .i64 0] B b r li A A C (.tuple #[]) ∧
    GoR 16 #[.pointer (some ⟨b, 0, none⟩)] B b r li A C C (.tuple #[.agg #[.int .i64 x.1, .int .i64 x.2], errV 0]) := by
  have hI' := hI.more
  obtain ⟨hr, hli, h8, hlt, hcn, hnm, hmy, hz1, hz2⟩ := hI
  rw [hz] at h8 hlt
  refine ⟨{ A with zs := l }, ⟨hr, hli, by simp at h8; show l.length ≤ 8; omega, fun y hy => hlt y (List.mem_cons_of_mem _ hy), hI'.2.2.2.2.1, hnm, hI'.2.2.2.2.2.2.1, hz1, hz2⟩, goG_step ?_, goR_step ?_⟩
  · rintro W G ⟨v, vn, vk, h1, rfl⟩
    rw [hz] at h1
    refine (rsOut (i := 0) (ns := l) (by simp) (by simp) r v W h1.q).mono ?_
    rintro y w' ⟨rfl, v', hq, hr', hk⟩
    obtain ⟨a1, a2⟩ := h1.out hq hr' hk
    exact ⟨rfl, _, ⟨v', vn, vk, a1, rfl⟩, a2⟩
  · rintro W F ⟨q, bi, bb, bv, v, va, vb, h1, rfl⟩ hB
    rw [hz] at h1
    refine (sPull_one W h1.sq).mono ?_
    rintro y w' ⟨rfl, v', hs, hr', hk⟩
    obtain ⟨a1, a2⟩ := h1.steps hB hs hr' (hk.mono (fun x hx => List.mem_cons_of_mem _ hx))
    exact ⟨rfl, _, ⟨q, bi, bb, bv, v', va, vb, a1, rfl⟩, a2⟩
end Go.Proofs.YtkkmlolnikomdaaGreatDoor

namespace Go.Proofs.YtkkmlolnikomdaaGreatDoor
open Go.ChangeShapes Go.WideShapes Go.ChangeAt Go.RowKit Go.Deep Go.Joins
theorem array10 {α : Type} {cs : Array α} (h : cs.size = 10) : ∃ c0 c1 c2 c3 c4 c5 c6 c7 c8 c9, cs = #[c0, c1, c2, c3, c4, c5, c6, c7, c8, c9] := by
  obtain ⟨l⟩ := cs
  match l, h with
  | [c0, c1, c2, c3, c4, c5, c6, c7, c8, c9], _ => exact ⟨c0, c1, c2, c3, c4, c5, c6, c7, c8, c9, rfl⟩
section
variable {H : Type} {enc : TypeId × Value → H} {W : World} {base : Nat}
set_option maxRecDepth 100000 in
theorem Tryz.open_hello {v : Value} {d : DataW H} {p : List MemPlace} (hv : Value.okWide Tryz.prog W .any base 60 v) (h : DataW.Trod enc Tryz.prog W 0 (fun _ => true) true 60 v d p) :
    ∃ (a t0 t1 t2 t3 u0 u1 u2 u3 : Int) (s : ByteArray), v = .agg #[.int .i64 a, .int .i64 t0, .int .i64 t1, .int .i64 t2, .int .i64 t3, .int .i64 u0, .int .i64 u1, .int .i64 u2, .int .i64 u3, .string s] ∧ s.size ≤ maxLen := by
  have hs := Tryz.underlying60
  have e1 : Tryz.prog.cellsOf 3 = 1 := by kernel_rfl
  have e2 : Tryz.prog.cellsOf 9 = 1 := by kernel_rfl
  have e3 : Tryz.prog.cellsOf 34 = 4 := by kernel_rfl
  have e4 : Tryz.prog.cellsOf 36 = 4 := by kernel_rfl
  have hC : Tryz.prog.cellsOf 60 = 10 := by kernel_rfl
  obtain ⟨cs, rfl, hsz⟩ := okWide_struct hs hv
  obtain ⟨c0, c1, c2, c3, c4, c5, c6, c7, c8, c9, rfl⟩ := array10 (hsz.trans hC)
  obtain ⟨fuel, hf⟩ := h
  obtain ⟨y0, y1, y2, y3, n, _, _, h0, h1, h2, h3⟩ := trod_struct4 hs hf
  simp only [Value.cells, e1, e2, e3, e4] at h0 h1 h2 h3
  obtain ⟨z0, z1, z2, z3, m, _, _, k0, k1, k2, k3⟩ := trod_struct4 Tryz.underlying34 h1
  obtain ⟨q0, q1, q2, q3, m2, _, _, l0, l1, l2, l3⟩ := trod_struct4 Tryz.underlying36 h2
  simp only [e1] at k0 k1 k2 k3 l0 l1 l2 l3
  obtain ⟨a0, r0, _, _⟩ := DataW.trod_int Tryz.underlying3 h0
  obtain ⟨a1, r1, _, _⟩ := DataW.trod_int Tryz.underlying3 k0
  obtain ⟨a2, r2, _, _⟩ := DataW.trod_int Tryz.underlying3 k1
  obtain ⟨a3, r3, _, _⟩ := DataW.trod_int Tryz.underlying3 k2
  obtain ⟨a4, r4, _, _⟩ := DataW.trod_int Tryz.underlying3 k3
  obtain ⟨a5, r5, _, _⟩ := DataW.trod_int Tryz.underlying3 l0
  obtain ⟨a6, r6, _, _⟩ := DataW.trod_int Tryz.underlying3 l1
  obtain ⟨a7, r7, _, _⟩ := DataW.trod_int Tryz.underlying3 l2
  obtain ⟨a8, r8, _, _⟩ := DataW.trod_int Tryz.underlying3 l3
  obtain ⟨s, r9, _, hw⟩ := DataW.trod_string Tryz.underlying9 h3
  simp at r0 r1 r2 r3 r4 r5 r6 r7 r8 r9
  subst r0; subst r1; subst r2; subst r3; subst r4; subst r5; subst r6; subst r7; subst r8; subst r9
  exact ⟨a0, a1, a2, a3, a4, a5, a6, a7, a8, s, rfl, by simpa using hw⟩
end
end Go.Proofs.YtkkmlolnikomdaaGreatDoor

namespace Go.Proofs.YtkkmlolnikomdaaGreatDoor
open Go.ChangeShapes Go.WideShapes Go.ChangeAt Go.RowKit Go.Deep Go.Joins
/-- one hello's cells -/
def HelloAt (w : World) (b o : Nat) (a t0 t1 t2 t3 u0 u1 u2 u3 : Int) (s : ByteArray) : Prop :=
  w.cell? ⟨b, o, none⟩ = some (.int .i64 a) ∧ w.cell? ⟨b, o + 1, none⟩ = some (.int .i64 t0) ∧ w.cell? ⟨b, o + 2, none⟩ = some (.int .i64 t1) ∧ w.cell? ⟨b, o + 3, none⟩ = some (.int .i64 t2) ∧ w.cell? ⟨b, o + 4, none⟩ = some (.int .i64 t3) ∧ w.cell? ⟨b, o + 5, none⟩ = some (.int .i64 u0) ∧ w.cell? ⟨b, o + 6, none⟩ = some (.int .i64 u1) ∧ w.cell? ⟨b, o + 7, none⟩ = some (.int .i64 u2) ∧ w.cell? ⟨b, o + 8, none⟩ = some (.int .i64 u3) ∧ w.cell? ⟨b, o + 9, none⟩ = some (.string s)
/-- A slice of hellos that came in. -/
def HelloRow (w : World) (a : Option Addr) (len : Nat) : Prop :=
  len ≤ maxLen ∧ (len = 0 ∨ ∃ b off, a = some ⟨b, off, none⟩ ∧ b < w.heap.size ∧ ∀ i, i < len → ∃ (a0 t0 t1 t2 t3 u0 u1 u2 u3 : Int) (s : ByteArray), s.size ≤ maxLen ∧ HelloAt w b (off + i * 10) a0 t0 t1 t2 t3 u0 u1 u2 u3 s)
section
variable {H : Type} {enc : TypeId × Value → H} {W : World} {base : Nat}
set_option maxRecDepth 100000 in
theorem Tryz.hello_trod {fuel : Nat} {cs : List Value} {x : DataW H × List MemPlace} (hl : cs.length = 10) (hf : DataW.trod enc Tryz.prog W 0 (fun _ => true) true fuel 60 cs = some x) :
    ∃ (a t0 t1 t2 t3 u0 u1 u2 u3 : Int) (s : ByteArray), cs = [.int .i64 a, .int .i64 t0, .int .i64 t1, .int .i64 t2, .int .i64 t3, .int .i64 u0, .int .i64 u1, .int .i64 u2, .int .i64 u3, .string s] ∧ s.size ≤ maxLen := by
  have hs := Tryz.underlying60
  have e1 : Tryz.prog.cellsOf 3 = 1 := by kernel_rfl
  have e2 : Tryz.prog.cellsOf 9 = 1 := by kernel_rfl
  have e3 : Tryz.prog.cellsOf 34 = 4 := by kernel_rfl
  have e4 : Tryz.prog.cellsOf 36 = 4 := by kernel_rfl
  obtain ⟨c0, c1, c2, c3, c4, c5, c6, c7, c8, c9, hcs⟩ := array10 (cs := cs.toArray) (by simpa using hl)
  obtain rfl : cs = [c0, c1, c2, c3, c4, c5, c6, c7, c8, c9] := by have := congrArg Array.toList hcs; simpa using this
  obtain ⟨y0, y1, y2, y3, n, _, _, h0, h1, h2, h3⟩ := trod_struct4 hs hf
  simp only [e1, e2, e3, e4] at h0 h1 h2 h3
  obtain ⟨z0, z1, z2, z3, m, _, _, k0, k1, k2, k3⟩ := trod_struct4 Tryz.underlying34 h1
  obtain ⟨q0, q1, q2, q3, m2, _, _, l0, l1, l2, l3⟩ := trod_struct4 Tryz.underlying36 h2
  simp only [e1] at k0 k1 k2 k3 l0 l1 l2 l3
  obtain ⟨a0, r0, _, _⟩ := DataW.trod_int Tryz.underlying3 h0
  obtain ⟨a1, r1, _, _⟩ := DataW.trod_int Tryz.underlying3 k0
  obtain ⟨a2, r2, _, _⟩ := DataW.trod_int Tryz.underlying3 k1
  obtain ⟨a3, r3, _, _⟩ := DataW.trod_int Tryz.underlying3 k2
  obtain ⟨a4, r4, _, _⟩ := DataW.trod_int Tryz.underlying3 k3
  obtain ⟨a5, r5, _, _⟩ := DataW.trod_int Tryz.underlying3 l0
  obtain ⟨a6, r6, _, _⟩ := DataW.trod_int Tryz.underlying3 l1
  obtain ⟨a7, r7, _, _⟩ := DataW.trod_int Tryz.underlying3 l2
  obtain ⟨a8, r8, _, _⟩ := DataW.trod_int Tryz.underlying3 l3
  obtain ⟨s, r9, _, hw⟩ := DataW.trod_string Tryz.underlying9 h3
  simp at r0 r1 r2 r3 r4 r5 r6 r7 r8 r9
  subst r0; subst r1; subst r2; subst r3; subst r4; subst r5; subst r6; subst r7; subst r8; subst r9
  exact ⟨a0, a1, a2, a3, a4, a5, a6, a7, a8, s, rfl, by simpa using hw⟩
set_option maxRecDepth 100000 in
theorem Tryz.open_hellorow {v : Value} {d : DataW H} {p : List MemPlace} (hv : Value.okWide Tryz.prog W .any base 23 v) (h : DataW.Trod enc Tryz.prog W 0 (fun _ => true) true 23 v d p) :
    ∃ a len cap, ∃ _z : Unit, v = .slice a len cap ∧ len ≤ cap ∧ cap ≤ maxLen ∧ HelloRow W a len := by
  have hC : Tryz.prog.cellsOf 60 = 10 := by kernel_rfl
  obtain ⟨a0, len0, cap0, rfl⟩ := okWide_slice Tryz.underlying23 hv
  obtain ⟨fuel, hf⟩ := h
  rcases open_slice Tryz.underlying23 hf with ⟨hcs, _⟩ | ⟨x, l, c, m, n, D, Pl, hcs, _, hl, hm, hmm, _, hcell⟩
  · simp [Value.cells] at hcs
    obtain ⟨rfl, rfl, rfl⟩ := hcs
    exact ⟨none, 0, 0, (), rfl, by simp, by simp, by simp, .inl rfl⟩
  · simp [Value.cells] at hcs
    obtain ⟨rfl, rfl, rfl⟩ := hcs
    simp only [if_true] at hmm
    subst hmm
    refine ⟨some x, len0, _, (), rfl, hl, hm, by omega, ?_⟩
    rcases Nat.eq_zero_or_pos len0 with h0 | hp
    · exact .inl h0
    · have each : ∀ i, i < len0 → ∃ (a0 t0 t1 t2 t3 u0 u1 u2 u3 : Int) (s : ByteArray), s.size ≤ maxLen ∧ ∀ j : Nat, j < 10 → W.cell? (x.add (i * 10 + j)) = ([.int .i64 a0, .int .i64 t0, .int .i64 t1, .int .i64 t2, .int .i64 t3, .int .i64 u0, .int .i64 u1, .int .i64 u2, .int .i64 u3, .string s] : List Value)[j]? := by
        intro i hi
        obtain ⟨cs', h1, h2⟩ := hcell i (by omega)
        rw [hC] at h1
        obtain ⟨_, hlen, hat⟩ := World.cells?_some h1
        obtain ⟨a0, t0, t1, t2, t3, u0, u1, u2, u3, s, rfl, hw⟩ := Tryz.hello_trod hlen h2
        exact ⟨a0, t0, t1, t2, t3, u0, u1, u2, u3, s, hw, fun j hj => by have := hat j hj; rwa [add_add] at this⟩
      obtain ⟨b, off, spot⟩ := x
      obtain ⟨a0, t0, t1, t2, t3, u0, u1, u2, u3, s, _, h1⟩ := each 0 hp
      have hc0 := h1 0 (by omega)
      have hs : spot = none := by simpa [Addr.add] using World.cell?_spot (show W.cell? ((⟨b, off, spot⟩ : Addr).add (0 * 10 + 0)) = some (.int .i64 a0) from hc0)
      subst hs
      refine .inr ⟨b, off, rfl, ?_, fun i hi => ?_⟩
      · have := block_lt (show W.cell? ((⟨b, off, none⟩ : Addr).add (0 * 10 + 0)) = some (.int .i64 a0) from hc0); simpa [Addr.add] using this
      · obtain ⟨a0, t0, t1, t2, t3, u0, u1, u2, u3, s, hw, h1⟩ := each i hi
        have e : ∀ j, ((⟨b, off, none⟩ : Addr).add (i * 10 + j)) = ⟨b, off + i * 10 + j, none⟩ := fun j => by simp [Addr.add, Nat.add_assoc]
        refine ⟨a0, t0, t1, t2, t3, u0, u1, u2, u3, s, hw, ?_⟩
        have g := fun j hj => (e j) ▸ h1 j hj
        exact ⟨g 0 (by omega), g 1 (by omega), g 2 (by omega), g 3 (by omega), g 4 (by omega), g 5 (by omega), g 6 (by omega), g 7 (by omega), g 8 (by omega), g 9 (by omega)⟩
end
end Go.Proofs.YtkkmlolnikomdaaGreatDoor
