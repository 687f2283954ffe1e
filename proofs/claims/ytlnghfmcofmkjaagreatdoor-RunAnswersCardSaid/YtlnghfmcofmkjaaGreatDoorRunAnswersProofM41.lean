/- run: the desk's do whatever the word, line, answer by contract. ServerPlays: turn, pull, how many wait. foldref1: Bit by contract. foldref1: Conn, Bit, Turned, Number by contracts. foldref2.Server: greet by contract. -/
import Derived.Test.YtlnghfmcofmkjaaGreatDoorRunLine
import Derived.Test.YtlnghfmcofmkjaaGreatDoorPlaysP
import Derived.Test.YtlnghfmcofmkjaaGreatDoorRunAnswersProofM2
import Derived.Test.YtlnghfmcofmkjaaGreatDoorRunAnswersProofM5
import Derived.Test.YtlnghfmcofmkjaaGreatDoorObj
import Derived.Handy
import Derived.Test.YtlnghfmcofmkjaaGreatDoorRunAnswersProofM36
import Derived.Test.YtlnghfmcofmkjaaGreatDoorRunAnswersProofM7
import Derived.Test.YtlnghfmcofmkjaaGreatDoorRunAnswersProofM38
namespace Go.Proofs.YtlnghfmcofmkjaaGreatDoor
open Go.RowKit

theorem RI_do {A : Vals} {t : Nat} (hI : RI A t) (ht : t < 4000) (w : List UInt8) (n : List Nat) : RI (doR A w n).2 (t + 1) := by
  unfold doR
  split
  · exact (rt_hello (B := 0) (b := 0) (r := 0) hI ht _ _ _ _ _ _).1
  · split
    · exact (rt_hello (B := 0) (b := 0) (r := 0) hI ht _ _ _ _ _ _).1
    · split
      · exact (rt_ticket (B := 0) (b := 0) (r := 0) hI ht _).1
      · split
        · exact (rt_pull (B := 0) (b := 0) hI ht).1
        · split
          · exact (rt_turn (B := 0) (b := 0) hI).1
          · split
            · exact (rt_crash (B := 0) (b := 0) (r := 0) hI).1
            · exact hI.more
theorem RI_line {A : Vals} {t : Nat} (hI : RI A t) (ht : t < 4000) (s : List UInt8) : RI (lineR A s).2 (t + 1) := by
  unfold lineR
  split
  · exact hI.more
  · exact RI_do hI ht _ _
theorem wants_len {w : List UInt8} {n : Nat} (h : wantsL w = some n) : (w = [104, 101, 108, 108, 111] ∧ n = 2) ∨ (w = [97, 103, 97, 105, 110] ∧ n = 6) ∨ (w = [116, 105, 99, 107, 101, 116] ∧ n = 1) ∨ (w = [112, 117, 108, 108] ∧ n = 0) ∨ (w = [116, 117, 114, 110] ∧ n = 0) ∨ (w = [99, 114, 97, 115, 104] ∧ n = 0) ∨ (w = [119, 97, 105, 116, 105, 110, 103] ∧ n = 0) := by
  unfold wantsL at h
  by_cases h1 : w = [104, 101, 108, 108, 111]
  · rw [if_pos h1] at h; exact .inl ⟨h1, (Option.some.inj h).symm⟩
  rw [if_neg h1] at h
  by_cases h2 : w = [97, 103, 97, 105, 110]
  · rw [if_pos h2] at h; exact .inr (.inl ⟨h2, (Option.some.inj h).symm⟩)
  rw [if_neg h2] at h
  by_cases h3 : w = [116, 105, 99, 107, 101, 116]
  · rw [if_pos h3] at h; exact .inr (.inr (.inl ⟨h3, (Option.some.inj h).symm⟩))
  rw [if_neg h3] at h
  by_cases h4 : w = [112, 117, 108, 108]
  · rw [if_pos h4] at h; exact .inr (.inr (.inr (.inl ⟨h4, (Option.some.inj h).symm⟩)))
  rw [if_neg h4] at h
  by_cases h5 : w = [116, 117, 114, 110]
  · rw [if_pos h5] at h; exact .inr (.inr (.inr (.inr (.inl ⟨h5, (Option.some.inj h).symm⟩))))
  rw [if_neg h5] at h
  by_cases h6 : w = [99, 114, 97, 115, 104]
  · rw [if_pos h6] at h; exact .inr (.inr (.inr (.inr (.inr (.inl ⟨h6, (Option.some.inj h).symm⟩)))))
  rw [if_neg h6] at h
  by_cases h7 : w = [119, 97, 105, 116, 105, 110, 103]
  · rw [if_pos h7] at h; exact .inr (.inr (.inr (.inr (.inr (.inr ⟨h7, (Option.some.inj h).symm⟩)))))
  rw [if_neg h7] at h
  cases h
theorem rdDo {B b : Nat} {A : Vals} {t : Nat} (hI : RI A t) (ht : t < 4000) {x : ByteArray} {us : List Nat} (hw : wantsL x.data.toList = some us.length) (v : Value) (K : Nat) (W : World) (F : List Nat) (hR : RealAt W B b 50 A F) (hE : EnvR K W) (hK : K ≤ B) (hB : B ≤ W.heap.size) (hv : NumsAt W v us) (hd : ∀ g, v.ownBlock = some g → g ∉ F) :
    Calls Tryz.prog 50 #[deskV b, .string x, v] W (DeskPost B b (doR A x.data.toList us).2 F W (doR A x.data.toList us).1) := by
  have hx : ∀ l : List UInt8, x.data.toList = l → x = ⟨l.toArray⟩ := fun l h => ba_of_list (by simpa using h)
  rcases wants_len hw with ⟨h, hn⟩ | ⟨h, hn⟩ | ⟨h, hn⟩ | ⟨h, hn⟩ | ⟨h, hn⟩ | ⟨h, hn⟩ | ⟨h, hn⟩
  · obtain rfl := hx _ h
    match us, hn with
    | [u0, u1], _ => exact rdDo_hello hI ht u0 u1 v K W F hR hE hK hB hv hd
  · obtain rfl := hx _ h
    match us, hn with
    | [u0, u1, u2, u3, u4, u5], _ => exact rdDo_again hI ht u0 u1 u2 u3 u4 u5 v K W F hR hE hK hB hv hd
  · obtain rfl := hx _ h
    match us, hn with
    | [u0], _ => exact rdDo_ticket hI ht u0 v K W F hR hE hK hB hv hd
  · obtain rfl := hx _ h
    exact rdDo_pull hI ht v K W F hR hE hK hB
  · obtain rfl := hx _ h
    exact rdDo_turn hI v K W F hR hE hK hB
  · obtain rfl := hx _ h
    exact rdDo_crash hI v K W F hR hE hK hB
  · obtain rfl := hx _ h
    exact rdDo_wait hI v K W F hR hE hK hB
theorem words_split (s : ByteArray) : ∃ x xs, wordsB s = x :: xs ∧ cutL 32 s.data.toList = x.data.toList :: wordsL xs := by
  have h1 := wordsB_cut s
  cases hw : wordsB s with
  | nil => have := wordsB_len s; rw [hw] at this; simp at this
  | cons x xs => rw [hw] at h1; exact ⟨x, xs, rfl, h1.symm⟩
theorem rdLine_bad {b : Nat} {s : ByteArray} (hs : s.size ≤ 100000) (h : readL s.data.toList = none) (K : Nat) (W : World) (hE : EnvR K W) (hK : K ≤ W.heap.size) :
    Calls Tryz.prog 35 #[deskV b, .string s] W fun e w' => e = .returned (.tuple #[.string ⟨#[]⟩, badV]) ∧ Below W.heap.size W w' := by
  obtain ⟨x, xs, hws, hcut⟩ := words_split s
  unfold readL at h
  rw [hcut] at h
  simp only at h
  cases hn : numsL (wordsL xs) with
  | none =>
    have hp : 0 < xs.length := by
      cases xs with
      | nil => cases hn
      | cons y ys => simp
    exact rdLine_none hs hws hp hn K W hE hK
  | some us =>
    have hz : xs = [] ∨ 0 < xs.length := by
      cases xs with
      | nil => exact .inl rfl
      | cons y ys => exact .inr (by simp)
    cases hw : wantsL x.data.toList with
    | none =>
      rcases hz with hz | hz
      · exact rdLine_unknown0 hs hws hz hn hw K W hE hK
      · exact rdLine_unknown hs hws hz hn hw K W hE hK
    | some m =>
      rw [hn, hw] at h
      simp only at h
      have hm : us.length ≠ m := fun e => by rw [if_pos e] at h; cases h
      rcases hz with hz | hz
      · exact rdLine_many0 hs hws hz hn hw hm K W hE hK
      · exact rdLine_many hs hws hz hn hw hm K W hE hK
theorem rdLine {B b : Nat} {A : Vals} {t : Nat} (hI : RI A t) (ht : t < 4000) {s : ByteArray} (hs : s.size ≤ 100000) {w : List UInt8} {n : List Nat} (h : readL s.data.toList = some (w, n)) (K : Nat) (W : World) (F : List Nat) (hR : RealAt W B b 50 A F) (hE : EnvR K W) (hK : K ≤ B) (hB : B ≤ W.heap.size) :
    Calls Tryz.prog 35 #[deskV b, .string s] W (DeskPost B b (doR A w n).2 F W (doR A w n).1) := by
  obtain ⟨x, xs, hws, hcut⟩ := words_split s
  unfold readL at h
  rw [hcut] at h
  simp only at h
  cases hn : numsL (wordsL xs) with
  | none => rw [hn] at h; cases hw : wantsL x.data.toList <;> rw [hw] at h <;> cases h
  | some us =>
    cases hw : wantsL x.data.toList with
    | none => rw [hw] at h; cases h
    | some m =>
      rw [hn, hw] at h
      simp only at h
      by_cases hm : us.length = m
      · rw [if_pos hm] at h
        obtain ⟨rfl, rfl⟩ := Prod.mk.inj (Option.some.inj h)
        rw [← hm] at hw
        have hdo := fun (v : Value) (W1 : World) (a1 : RealAt W1 B b 50 A F) (a2 : EnvR K W1) (a3 : B ≤ W1.heap.size) (a4 : NumsAt W1 v us) (a5 : ∀ g, v.ownBlock = some g → g ∉ F) => rdDo hI ht hw v K W1 F a1 a2 hK a3 a4 a5
        have hz : xs = [] ∨ 0 < xs.length := by
          cases xs with
          | nil => exact .inl rfl
          | cons y ys => exact .inr (by simp)
        rcases hz with hz | hz
        · exact rdLine_ok0 hs hws hz hn hw K W F hR hE hK hB hdo
        · exact rdLine_ok hs hws hz hn hw K W F hR hE hK hB hdo
      · rw [if_neg hm] at h; cases h
end Go.Proofs.YtlnghfmcofmkjaaGreatDoor

namespace Go.Proofs.YtlnghfmcofmkjaaGreatDoor
open Go.RowKit

theorem PA.ring {w : World} {B b r : Nat} {li : Int} {A C : Vals} {bx : List Nat} (h : PA w B b r li A C bx) : (w.cell? ⟨r, 0, none⟩ = some (.int .i64 C.e) ∧ w.cell? ⟨r, 1, none⟩ = some (.int .i64 C.k) ∧ w.cell? ⟨r, 2, none⟩ = some (.int .i64 C.o)) ∧ (w.frozen? ⟨r, 0, none⟩ = false ∧ w.frozen? ⟨r, 1, none⟩ = false ∧ w.frozen? ⟨r, 2, none⟩ = false) := by
  obtain ⟨F, G, _, ⟨v, vn, vk, h1, _⟩, _⟩ := h
  exact ⟨⟨h1.q.1.cell (i := 0) rfl, h1.q.1.cell (i := 1) rfl, h1.q.1.cell (i := 2) rfl⟩, h1.q.1.free 0, h1.q.1.free 1, h1.q.1.free 2⟩
theorem PA.que {w : World} {B b r : Nat} {li : Int} {A C : Vals} {bx : List Nat} (h : PA w B b r li A C bx) : ∃ a c, w.cell? ⟨r, 4, none⟩ = some (.slice a C.zs.length c) := by
  obtain ⟨F, G, _, ⟨v, vn, vk, h1, _⟩, _⟩ := h
  obtain ⟨a, c, rfl⟩ := qrow_form h1.q.2.1
  exact ⟨a, c, h1.q.1.cell (i := 4) rfl⟩
theorem PA.que1 {w : World} {B b r : Nat} {li : Int} {A C : Vals} {bx : List Nat} (h : PA w B b r li A C bx) {x : Int × Int} {l : List (Int × Int)} (hz : C.zs = x :: l) : ∃ g o c, w.cell? ⟨r, 4, none⟩ = some (.slice (some ⟨g, o, none⟩) (l.length + 1) c) ∧ w.cell? ⟨g, o, none⟩ = some (.int .i64 x.1) ∧ w.cell? ⟨g, o + 1, none⟩ = some (.int .i64 x.2) := by
  obtain ⟨F, G, _, ⟨v, vn, vk, h1, _⟩, _⟩ := h
  obtain ⟨_, ⟨h0, _⟩ | ⟨g, off, cap, hv, h2, h3, h4, h5, h6⟩⟩ := h1.q.2.1
  · rw [hz] at h0; cases h0
  · have hc : w.cell? ⟨r, 4, none⟩ = some v := h1.q.1.cell (i := 4) rfl
    have hl : C.zs.length = l.length + 1 := by rw [hz]; rfl
    obtain ⟨p0, p1⟩ := h5 0 (by omega)
    rw [hz] at p0 p1
    exact ⟨g, off, cap, by rw [hc, hv, hl], by simpa using p0, by simpa using p1⟩
theorem PA.wait {w : World} {B b r : Nat} {li : Int} {A C : Vals} {bx : List Nat} (h : PA w B b r li A C bx) : Calls Tryz.prog 69 #[.pointer (some ⟨b, 0, none⟩)] w fun x w' => x = .returned (.int .i64 (A.zs.length : Int)) ∧ Below w.heap.size w w' := by
  obtain ⟨F, G, ⟨q, bi, bb, bv, v, va, vb, h1, _⟩, _⟩ := h
  exact sWaiting w h1.sq
theorem RV.out {w w' : World} {b : Nat} {e k o li n m cn : Int} {v v' vn vk : Value} {zs ns z1 z2 : List (Int × Int)} (h : RV w b e k o li n m cn v vn vk zs z1 z2) (hq : RQ (rvC e k o li n m cn vn vk) w' b v' ns) (hr : v'.ownBlock = none ∨ ∃ g, v'.ownBlock = some g ∧ w.heap.size ≤ g) (hk : Kept [b] w w') :
    RV w' b e k o li n m cn v' vn vk ns z1 z2 ∧ SVst (rvF b v vn vk) (rvF b v' vn vk) w w' := by
  have hz := hk.size
  have hin : ∀ g, v'.ownBlock = some g → w.heap.size ≤ g := fun g hg => by
    rcases hr with e' | ⟨g', e', h1⟩
    · rw [hg] at e'; cases e'
    · rw [hg] at e'; have := Option.some.inj e'; omega
  refine ⟨{ q := hq, now := h.now.kept hk (fun x hx e' => by simp at hx; subst hx; exact (h.dn _ (.inl e')).2.1 rfl), kep := h.kep.kept hk (fun x hx e' => by simp at hx; subst hx; exact (h.dn _ (.inr e')).2.1 rfl), dn := fun g hg => ?_ }, ⟨hk.mono (fun x hx => by simp at hx; rw [hx]; exact mem_rvF.2 (.inl rfl)), fun x hx => ?_⟩⟩
  · obtain ⟨h1, h2, h3⟩ := h.dn g hg
    exact ⟨by omega, h2, fun e' => by have := hin g e'; omega⟩
  · rcases mem_rvF.1 hx with rfl | e2 | e2
    · exact .inl (mem_rvF.2 (.inl rfl))
    · exact .inr (hin x e2)
    · exact .inl (mem_rvF.2 (.inr (.inr e2)))
/-- the ring turned -/
theorem pl_turn {B b r : Nat} {li : Int} {A : Vals} {t : Nat} (hI : PI li A t) :
    (∃ (t1 t2 t3 : Int) (C : Vals), PI li C (t + 1) ∧ (∀ W, Calls Tryz.prog 25 #[.agg #[.int .i64 A.e, .int .i64 A.k, .int .i64 A.o]] W fun x w' => x = .returned (.tuple #[.agg #[.int .i64 t1, .int .i64 t2, .int .i64 t3], .int .i64 0]) ∧ Below W.heap.size W w') ∧
      (∀ W bx, PA W B b r li A A bx → PA (((W.setCell ⟨r, 0, none⟩ (.int .i64 t1)).setCell ⟨r, 1, none⟩ (.int .i64 t2)).setCell ⟨r, 2, none⟩ (.int .i64 t3)) B b r li A C bx ∧ FrB bx W (((W.setCell ⟨r, 0, none⟩ (.int .i64 t1)).setCell ⟨r, 1, none⟩ (.int .i64 t2)).setCell ⟨r, 2, none⟩ (.int .i64 t3)) ∧ Below B W (((W.setCell ⟨r, 0, none⟩ (.int .i64 t1)).setCell ⟨r, 1, none⟩ (.int .i64 t2)).setCell ⟨r, 2, none⟩ (.int .i64 t3))) ∧
      GoR 66 #[.pointer (some ⟨b, 0, none⟩)] B b r li A C C (errV 0)) ∨
    ((∀ W, Calls Tryz.prog 25 #[.agg #[.int .i64 A.e, .int .i64 A.k, .int .i64 A.o]] W fun x w' => x = .returned (.tuple #[.agg #[.int .i64 0, .int .i64 0, .int .i64 0], .int .i64 4]) ∧ Below W.heap.size W w') ∧
      GoR 66 #[.pointer (some ⟨b, 0, none⟩)] B b r li A A A (errV 4)) := by
  have hI' := hI.more
  obtain ⟨hr, hli, h8, hlt, hcn, hnm, hmy, hz1, hz2⟩ := hI
  obtain ⟨h1, _, _, _⟩ := ringE_ok hr
  by_cases he : A.e < 100
  · refine .inl ⟨A.e + 1, tagOf A.k [A.e + 1], A.k, { A with e := A.e + 1, k := tagOf A.k [A.e + 1], o := A.k }, ⟨ringTurn_right hr he, hI'.2.1, hI'.2.2.1, hI'.2.2.2.1, hI'.2.2.2.2.1, hI'.2.2.2.2.2.1, hI'.2.2.2.2.2.2.1, hI'.2.2.2.2.2.2.2.1, hI'.2.2.2.2.2.2.2.2⟩, fun W => rTurn_ok hr he W, ?_, goR_step ?_⟩
    · rintro W bx ⟨F, G, k1, ⟨v, vn, vk, k2, rfl⟩, k3, k4, k5, k6⟩
      have hk : Kept [r] W (((W.setCell ⟨r, 0, none⟩ (.int .i64 (A.e + 1))).setCell ⟨r, 1, none⟩ (.int .i64 (tagOf A.k [A.e + 1]))).setCell ⟨r, 2, none⟩ (.int .i64 A.k)) := (((Kept.refl _ _).setCell (.inl (by simp)) _).setCell (.inl (by simp)) _).setCell (.inl (by simp)) _
      have hs := k2.own (e' := A.e + 1) (k' := tagOf A.k [A.e + 1]) (o' := A.k) (n' := A.n) (m' := A.m) (cn' := A.cn) (((k2.q.1.set 0 _).set 1 _).set 2 _) hk (.inl ⟨rfl, rfl⟩) (.inl ⟨rfl, rfl⟩) ⟨rfl, rfl⟩
      exact PA.stepG k1 k3 k4 k5 k6 ⟨v, vn, vk, hs.1, rfl⟩ hs.2
    · rintro W F ⟨q, bi, bb, bv, v, va, vb, h1, rfl⟩ hB
      refine (svTurn_ok hr he W hB h1).mono ?_
      rintro x w' ⟨rfl, hs, hst⟩
      exact ⟨rfl, _, ⟨q, bi, bb, bv, v, va, vb, hs, rfl⟩, hst⟩
  · have he' : A.e = 100 := by omega
    refine .inr ⟨fun W => ?_, goR_below ?_⟩
    · rw [he']; exact rTurn_full W
    · rintro W F ⟨q, bi, bb, bv, v, va, vb, h1, _⟩
      rw [he'] at h1 hr
      exact svTurn_full hr W h1
/-- nobody waits -/
theorem pl_pull0 {B b r : Nat} {li : Int} {A : Vals} (hz : A.zs = []) : GoR 90 #[.pointer (some ⟨b, 0, none⟩)] B b r li A A A (.tuple #[.agg #[.int .i64 0, .int .i64 0], errV 5]) := by
  refine goR_below ?_
  rintro W F ⟨q, bi, bb, bv, v, va, vb, h1, _⟩
  rw [hz] at h1
  exact sPull_none W h1.sq
/-- the first is pulled -/
theorem pl_pull1 {B b r : Nat} {li : Int} {A : Vals} {t : Nat} (hI : PI li A t) {x : Int × Int} {l : List (Int × Int)} (hz : A.zs = x :: l) : ∃ C, PI li C (t + 1) ∧
    GoG 23 #[.pointer (some ⟨r, 4, none⟩), .int .i64 0] B b r li A A C (.tuple #[]) ∧
    GoR 90 #[.pointer (some ⟨b, 0, none⟩)] B b r li A C C (.tuple #[.agg #[.int .i64 x.1, .int .i64 x.2], errV 0]) := by
  have hI' := hI.more
  obtain ⟨hr, hli, h8, hlt, hcn, hnm, hmy, hz1, hz2⟩ := hI
  rw [hz] at h8 hlt
  refine ⟨{ A with zs := l }, ⟨hr, hli, by simp at h8; show l.length ≤ 8; omega, fun y hy => hlt y (List.mem_cons_of_mem _ hy), hI'.2.2.2.2.1, hnm, hI'.2.2.2.2.2.2.1, hz1, hz2⟩, goG_step ?_, goR_step ?_⟩
  · rintro W G ⟨v, vn, vk, h1, rfl⟩
    rw [hz] at h1
    refine (rsOut (i := 0) (ns := l) (by simp) (by simp) r v W h1.q).mono ?_
    rintro y w' ⟨rfl, v', hq, hr', hk⟩
    obtain ⟨a1, a2⟩ := h1.out hq hr' hk
    exact ⟨rfl, _, ⟨v', vn, vk, a1, rfl⟩, a2⟩
  · rintro W F ⟨q, bi, bb, bv, v, va, vb, h1, rfl⟩ hB
    rw [hz] at h1
    refine (sPull_one W h1.sq).mono ?_
    rintro y w' ⟨rfl, v', hs, hr', hk⟩
    obtain ⟨a1, a2⟩ := h1.steps hB hs hr' (hk.mono (fun x hx => List.mem_cons_of_mem _ hx))
    exact ⟨rfl, _, ⟨q, bi, bb, bv, v', va, vb, a1, rfl⟩, a2⟩
end Go.Proofs.YtlnghfmcofmkjaaGreatDoor

namespace Go.Proofs.YtlnghfmcofmkjaaGreatDoor
open Go.RowKit

/-- the k-th bit -/
theorem rBit (n k : Nat) (w : World) (hn : n < 9223372036854775808) (hk : k ≤ 100) : Calls Tryz.prog 59 #[.int .i64 (n : Int), .int .i64 (k : Int)] w fun e w' => e = .returned (.bool (n.testBit k)) ∧ w = w' := by
  go_enter Tryz.func59, Tryz.ntmps59
  go_wp2
  go_loop [0, 5] (fun m i => ∃ j x : Nat, i = .int .i64 j ∧ j ≤ k ∧ Hid (x = n / 2 ^ j) ∧ x < 9223372036854775808 ∧ m = .int .i64 x) (fun _ i => k - (intOf i).toNat)
  case atStart => exact ⟨0, n, rfl, by omega, hide (by simp), hn, rfl⟩
  case round =>
    obtain ⟨j, x, rfl, hj, hx, hxl, rfl⟩ := hrel
    by_cases hlt : j < k
    · go_wp2
      go_round
      case rel => exact ⟨j + 1, x / 2, by go_num, by omega, hide (by rw [hx.out, Nat.pow_succ, Nat.div_div_eq_div_mul]), by omega, by go_num⟩
      case measure => simp [intOf]; omega
    · obtain rfl : j = k := by omega
      have hb : (((x : Int) % 2) == 1) = n.testBit j := by
        rw [← bit_eq, ← hx.out]
        rw [Bool.eq_iff_iff]; simp only [beq_iff_eq]; omega
      have Hb := hide hb
      clear hb
      go_wp2
      go_ret
      exact ⟨retB Hb.out, rfl⟩
end Go.Proofs.YtlnghfmcofmkjaaGreatDoor

namespace Go.Proofs.YtlnghfmcofmkjaaGreatDoor
open Go.RowKit

theorem rTurned (n : Nat) (w : World) (hn : n < 65536) : Calls Tryz.prog 42 #[.int .i64 (n : Int)] w fun e w' => e = .returned (.int .i64 ((xn n : Nat) : Int)) ∧ w = w' := by
  have BT := hide (fun (k : Nat) (hk : k ≤ 100) W => rBit n k W (by omega) hk)
  go_enter Tryz.func42, Tryz.ntmps42
  go_wp2
  go_loop [3, 4, 5] (fun o p k => ∃ j x y : Nat, k = .int .i64 j ∧ j ≤ 16 ∧ Hid (x = sumBits (fun k => n.testBit k != (k % 2 == 0)) j) ∧ x < 65536 ∧ Hid (y = 2 ^ j) ∧ y ≤ 65536 ∧ o = .int .i64 x ∧ p = .int .i64 y) (fun _ _ k => 16 - (intOf k).toNat)
  case atStart => exact ⟨0, 0, 1, rfl, by omega, hide rfl, by omega, hide rfl, by omega, rfl, rfl⟩
  case round =>
    obtain ⟨j, x, y, rfl, hj, hx, hxl, hy, hyl, rfl, rfl⟩ := hrel
    by_cases hlt : j < 16
    · have C := hide (BT.out j (by omega))
      have hy2 : 2 * y ≤ 65536 := by
        have : 2 ^ (j + 1) ≤ 2 ^ 16 := Nat.pow_le_pow_right (by decide) (by omega)
        rw [hy.out]; rw [Nat.pow_succ] at this; omega
      have hx2 : x + y ≤ 65535 := by
        have h1 := sumBits_lt (fun k => n.testBit k != (k % 2 == 0)) j
        rw [← hx.out, ← hy.out] at h1
        omega
      have hs := hide (show sumBits (fun k => n.testBit k != (k % 2 == 0)) (j + 1) = x + if (n.testBit j != (j % 2 == 0)) then y else 0 by rw [hx.out, hy.out]; rfl)
      have hyy := hide (show 2 * y = 2 ^ (j + 1) by rw [hy.out, Nat.pow_succ]; omega)
      have hmod : ((((j : Nat) : Int) % 2) == 0) = (j % 2 == 0) := by rw [Bool.eq_iff_iff]; simp only [beq_iff_eq]; omega
      have Hm := hide hmod
      clear hmod
      cases hbit : n.testBit j
      · rw [hbit] at C hs
        cases hpar : (j % 2 == 0)
        · rw [hpar] at Hm hs
          have t1 : ((((j : Nat) : Int) % 2) == 0) = false := Hm.out
          clear hbit hpar
          go_wp2_with fail
          refine (C.out _).mono ?_
          rintro e w1 ⟨rfl, rfl⟩
          go_wp2
          go_round
          case rel => exact ⟨j + 1, x, 2 * y, by go_num, by omega, hide (by rw [hs.out]; simp), by omega, hyy, by omega, rfl, by go_num⟩
          case measure => simp [intOf]; omega
        · rw [hpar] at Hm hs
          have t1 : ((((j : Nat) : Int) % 2) == 0) = true := Hm.out
          clear hbit hpar
          go_wp2_with fail
          refine (C.out _).mono ?_
          rintro e w1 ⟨rfl, rfl⟩
          go_wp2
          go_round
          case rel => exact ⟨j + 1, x + y, 2 * y, by go_num, by omega, hide (by rw [hs.out]; simp), by omega, hyy, by omega, by go_num, by go_num⟩
          case measure => simp [intOf]; omega
      · rw [hbit] at C hs
        cases hpar : (j % 2 == 0)
        · rw [hpar] at Hm hs
          have t1 : ((((j : Nat) : Int) % 2) == 0) = false := Hm.out
          clear hbit hpar
          go_wp2_with fail
          refine (C.out _).mono ?_
          rintro e w1 ⟨rfl, rfl⟩
          go_wp2
          go_round
          case rel => exact ⟨j + 1, x + y, 2 * y, by go_num, by omega, hide (by rw [hs.out]; simp), by omega, hyy, by omega, by go_num, by go_num⟩
          case measure => simp [intOf]; omega
        · rw [hpar] at Hm hs
          have t1 : ((((j : Nat) : Int) % 2) == 0) = true := Hm.out
          clear hbit hpar
          go_wp2_with fail
          refine (C.out _).mono ?_
          rintro e w1 ⟨rfl, rfl⟩
          go_wp2
          go_round
          case rel => exact ⟨j + 1, x, 2 * y, by go_num, by omega, hide (by rw [hs.out]; simp), by omega, hyy, by omega, rfl, by go_num⟩
          case measure => simp [intOf]; omega
    · obtain rfl : j = 16 := by omega
      have hb : (x : Int) = ((xn n : Nat) : Int) := by rw [hx.out, turned n hn]; rfl
      have Hb := hide hb
      clear hb
      go_wp2
      go_ret
      exact ⟨retI Hb.out, rfl⟩
theorem rNumber (s n : Int) (w : World) (h : connB s n = true) : Calls Tryz.prog 24 #[.agg #[.int .i64 s, .int .i64 n]] w fun e w' => e = .returned (.int .i64 (connN s n)) ∧ Below w.heap.size w w' := by
  simp only [connB, decide_eq_true_eq] at h
  obtain ⟨h1, h2, h3, h4⟩ := h
  have C := hide (fun W => rTurned (4096 * s + n).toNat W (by omega))
  rw [show (((4096 * s + n).toNat : Nat) : Int) = 4096 * s + n by omega] at C
  have C2 : Hid (∀ W, Calls Tryz.prog 42 #[.int .i64 (4096 * s + n)] W fun e w' => e = .returned (.int .i64 (connN s n)) ∧ W = w') := C
  clear C
  go_enter Tryz.func24, Tryz.ntmps24
  go_wp2_with fail
  refine (C2.out _).mono ?_
  rintro e w1 ⟨rfl, rfl⟩
  go_wp2
  go_ret
  exact ⟨rfl, by go_grown⟩
end Go.Proofs.YtlnghfmcofmkjaaGreatDoor

namespace Go.Proofs.YtlnghfmcofmkjaaGreatDoor
open Go.RowKit

/-- what a deed of the document's server gives: the text; the server behind it -/
def RefPost (r : Nat) (C : Vals) (G : List Nat) (W : World) (ans : List UInt8) (e : Ending) (w' : World) : Prop :=
  (∃ s : ByteArray, e = .returned (.string s) ∧ s.data.toList = ans) ∧ ∃ G', RefAt w' r 50 C G' ∧ SVst G G' W w'
theorem RefPost.mk {r : Nat} {C : Vals} {G G' : List Nat} {W w w' : World} {ans : List UInt8} {s : ByteArray} (ha : s.data.toList = ans) (hR : RefAt w r 50 C G') (hs : SVst G G' W w) (hb : Below w.heap.size w w') : RefPost r C G W ans (.returned (.string s)) w' :=
  ⟨⟨s, rfl, ha⟩, G', hR.kept (Kept.of_below hb []) (by simp), hs.post hb⟩
theorem RefPost.out {r : Nat} {C : Vals} {G : List Nat} {W W1 w w' : World} {ans : List UInt8} {e : Ending} (hb : Below W.heap.size W W1) (h : RefPost r C G W1 ans e w) (hw : Below w.heap.size w w') : RefPost r C G W ans e w' := by
  obtain ⟨h1, G', h2, h3⟩ := h
  exact ⟨h1, G', h2.kept (Kept.of_below hw []) (by simp), (h3.pre hb).post hw⟩
def RefGo (f : FuncId) (args : Array Value) (r : Nat) (A C : Vals) (ans : List UInt8) : Prop :=
  ∀ W G, RefAt W r 50 A G → Calls Tryz.prog f args W (RefPost r C G W ans)
theorem RefAt.bel {r : Nat} {A : Vals} {G : List Nat} {W W1 : World} (hR : RefAt W r 50 A G) (hb : Below W.heap.size W W1) : RefAt W1 r 50 A G := hR.kept (Kept.of_below hb []) (by simp)
theorem GoD.at {f : FuncId} {args : Array Value} {r : Nat} {A C : Vals} {res : Value} (h : GoD f args r A C res) {W W1 : World} {G : List Nat} (hR : RefAt W r 50 A G) (hb : Below W.heap.size W W1) :
    Calls Tryz.prog f args W1 fun x w' => x = .returned res ∧ (∃ G', RefAt w' r 50 C G' ∧ SVst G G' W w') ∧ W1.heap.size ≤ w'.heap.size := by
  refine (h W1 G (hR.bel hb)).mono ?_
  rintro x w' ⟨rfl, G', hn, hs⟩
  exact ⟨rfl, ⟨G', hn, hs.pre hb⟩, hs.1.size⟩
set_option maxHeartbeats 8000000 in
theorem refGreet {r : Nat} {A : Vals} {t : Nat} (hI : RI A t) (ht : t < 4000) (a t0 t1 t2 t3 now : Int) :
    RefGo 19 #[.pointer (some ⟨r, 0, none⟩), plH a t0 t1 t2 t3 0 0 0 0 ⟨#[]⟩, .int .i64 now] r A (helloR A a t0 t1 t2 t3 now).2 (helloR A a t0 t1 t2 t3 now).1 := by
  intro W G hR
  obtain ⟨_, k0, k1, k2, k3, k4, k5, k6, f, htx, hf, hk, hk0, hcb, hg, _⟩ := rt_hello (B := 0) (b := 0) (r := r) hI ht a t0 t1 t2 t3 now
  generalize (helloR A a t0 t1 t2 t3 now).2 = C at hg ⊢
  generalize (helloR A a t0 t1 t2 t3 now).1 = ans at htx ⊢
  have GG := hide (fun W1 (hb : Below W.heap.size W W1) => hg.at hR hb)
  unfold plH plA at GG
  have HT := hide htx
  have HK := hide hk
  by_cases h0 : f = 0
  · subst h0
    have CI := hide (fun W => rNumber k5 k6 W hcb)
    have hcn := connN_num hcb
    have DG := hide (fun W => refDigits hcn.1 hcn.2 W)
    have DL := hide (numB_digL hcn)
    have ds := numB_size hcn.1 hcn.2
    have hkc : k0 = 0 ∨ k0 = 1 ∨ k0 = 2 := by omega
    generalize connN k5 k6 = cn at CI DG DL ds HT
    generalize numB cn = nb at DG DL ds
    clear hg hR hI htx hf hk hk0 hcb hcn
    rcases hkc with rfl | rfl | rfl
    · unfold plH
      go_enter Tryz.func19, Tryz.ntmps19
      go_wp2_with fail
      refine (GG.out _ (by go_grown)).mono ?_
      rintro e w2 ⟨rfl, ⟨G', hR2, hs2⟩, hz2⟩
      have HR := hide hR2
      have HS := hide hs2
      clear hR2 hs2
      go_wp2_with fail
      obtain ⟨W3, hW3⟩ : ∃ W3, W3 = (w2.alloc (.cells #[.int .i64 0, .int .i64 k1, .int .i64 k2, .int .i64 k3, .int .i64 k4, .int .i64 k5, .int .i64 k6, .bool false] 101)).alloc (.cells #[.int .i64 k1, .int .i64 k2, .int .i64 k3, .int .i64 k4] 3) := ⟨_, rfl⟩
      have ho3 : ObjAt W3 (w2.heap.size + 1) 3 [.int .i64 k1, .int .i64 k2, .int .i64 k3, .int .i64 k4] := by rw [hW3]; exact objNew (by simp)
      have hb3 : Below w2.heap.size w2 W3 := by rw [hW3]; exact ((Below.refl _ _).alloc (Nat.le_refl _) _).alloc (by simp) _
      rw [← hW3]
      refine (refRow4 HK.out _ _ W3 (ho3.cell (i := 0) rfl) (ho3.cell (i := 1) rfl) (ho3.cell (i := 2) rfl) (ho3.cell (i := 3) rfl)).mono ?_
      rintro e w4 ⟨rfl, hw4⟩
      rw [hw4] at hb3
      have HB4 := hide hb3
      have hrs := rowB_size4 HK.out
      clear hW3 hb3 ho3 hw4
      go_wp2
      go_ret
      exact RefPost.mk (by rw [HT.out]; simp [rowB, retW]) HR.out HS.out HB4.out
    · unfold plH
      go_enter Tryz.func19, Tryz.ntmps19
      go_wp2_with fail
      refine (GG.out _ (by go_grown)).mono ?_
      rintro e w2 ⟨rfl, ⟨G', hR2, hs2⟩, hz2⟩
      have HR := hide hR2
      have HS := hide hs2
      clear hR2 hs2
      go_wp2_with fail
      refine (CI.out _).mono ?_
      rintro e w3 ⟨rfl, hb3⟩
      have HB3 := hide (((Below.refl w2.heap.size w2).alloc (Nat.le_refl _) _).trans (hb3.mono (by simp)))
      clear hb3
      go_wp2_with fail
      refine (DG.out _).mono ?_
      rintro e w4 ⟨rfl, rfl⟩
      go_wp2
      go_ret
      exact RefPost.mk (by rw [HT.out]; simp [DL.out, welW]) HR.out HS.out HB3.out
    · unfold plH
      go_enter Tryz.func19, Tryz.ntmps19
      go_wp2_with fail
      refine (GG.out _ (by go_grown)).mono ?_
      rintro e w2 ⟨rfl, ⟨G', hR2, hs2⟩, hz2⟩
      have HR := hide hR2
      have HS := hide hs2
      clear hR2 hs2
      go_wp2
      go_ret
      exact RefPost.mk (by rw [HT.out]; rfl) HR.out HS.out (by go_grown)
  · have hne : (f != 0) = true := bne_iff_ne.2 h0
    have H0 := hide h0
    have NM := hide (fun W => refName hf.1 hf.2 W)
    clear hg hR hI htx hf hk hk0 hcb h0
    unfold plH
    go_enter Tryz.func19, Tryz.ntmps19
    go_wp2_with fail
    refine (GG.out _ (by go_grown)).mono ?_
    rintro e w2 ⟨rfl, ⟨G', hR2, hs2⟩, hz2⟩
    have HR := hide hR2
    have HS := hide hs2
    clear hR2 hs2
    go_wp2_with fail
    refine (NM.out _).mono ?_
    rintro e w3 ⟨rfl, hb3⟩
    have HB3 := hide (((Below.refl w2.heap.size w2).alloc (Nat.le_refl _) _).trans (hb3.mono (by simp)))
    clear hb3
    go_wp2
    go_ret
    exact RefPost.mk (by rw [HT.out, if_pos H0.out]; rfl) HR.out HS.out HB3.out
end Go.Proofs.YtlnghfmcofmkjaaGreatDoor
