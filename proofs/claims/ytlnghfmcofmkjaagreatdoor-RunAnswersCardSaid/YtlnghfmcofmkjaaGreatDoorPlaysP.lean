/- ServerPlays: the server and the document's server, apart from each other and from boxes; each deed by contracts for both. -/
import Derived.Test.YtlnghfmcofmkjaaGreatDoorRSHelloE
import Derived.Test.YtlnghfmcofmkjaaGreatDoorRunAnswersProofM34
namespace Go.Proofs.YtlnghfmcofmkjaaGreatDoor
open Go.RowKit

/-- what a server holds -/
structure Vals where
  (e k o cn n m many : Int)
  (zs z1 z2 : List (Int × Int))
def RealAt (w : World) (B b : Nat) (li : Int) (A : Vals) (F : List Nat) : Prop := ∃ q bi bb bv v va vb, SV w B b q bi bb bv A.e A.k A.o li A.cn v va vb A.zs A.z1 A.z2 A.n A.m A.many ∧ svF b q bi bb bv v va vb = F
def RefAt (w : World) (r : Nat) (li : Int) (A : Vals) (G : List Nat) : Prop := ∃ v vn vk, RV w r A.e A.k A.o li A.n A.m A.cn v vn vk A.zs A.z1 A.z2 ∧ rvF r v vn vk = G
/-- the server at b holds A, the document's at r holds C; the boxes bx are none of theirs -/
def PA (w : World) (B b r : Nat) (li : Int) (A C : Vals) (bx : List Nat) : Prop := ∃ F G, RealAt w B b li A F ∧ RefAt w r li C G ∧ (∀ x ∈ F, x ∉ G) ∧ (∀ x ∈ bx, x ∉ F ∧ x ∉ G ∧ x < w.heap.size) ∧ (∀ x ∈ G, B ≤ x) ∧ B ≤ w.heap.size
/-- the boxes hold what they held -/
def FrB (bx : List Nat) (W w' : World) : Prop := ∀ Y ∈ bx, ∀ (T : TypeId) (cs : List Value), ObjAt W Y T cs → ObjAt w' Y T cs
theorem RealAt.lt {w : World} {B b : Nat} {li : Int} {A : Vals} {F : List Nat} (h : RealAt w B b li A F) : ∀ x ∈ F, B ≤ x ∧ x < w.heap.size := by
  obtain ⟨q, bi, bb, bv, v, va, vb, h1, rfl⟩ := h
  exact h1.lt
theorem RefAt.lt {w : World} {r : Nat} {li : Int} {A : Vals} {G : List Nat} (h : RefAt w r li A G) : ∀ x ∈ G, x < w.heap.size := by
  obtain ⟨v, vn, vk, h1, rfl⟩ := h
  exact h1.lt
theorem RealAt.kept {S : List Nat} {w w' : World} {B b : Nat} {li : Int} {A : Vals} {F : List Nat} (h : RealAt w B b li A F) (hk : Kept S w w') (hn : ∀ x ∈ F, x ∉ S) : RealAt w' B b li A F := by
  obtain ⟨q, bi, bb, bv, v, va, vb, h1, rfl⟩ := h
  have hm : ∀ x, x ∈ svF b q bi bb bv v va vb → x ∉ S := hn
  refine ⟨q, bi, bb, bv, v, va, vb, { h1 with
    obj := hk.obj h1.obj (hm _ (mem_svF.2 (.inl rfl)))
    que := h1.que.kept hk (hm _ (mem_svF.2 (.inr (.inl (mem_qS.2 (.inl rfl)))))) (fun g hg => hm _ (mem_svF.2 (.inr (.inl (mem_qS.2 (.inr hg))))))
    iss := h1.iss.kept hk (hm _ (mem_svF.2 (.inr (.inr (.inl (.inl rfl)))))) (hm _ (mem_svF.2 (.inr (.inr (.inl (.inr rfl))))))
    va := h1.va.kept hk (fun x hx hv => hm _ (mem_svF.2 (.inr (.inr (.inr hv)))) hx)
    lt := fun x hx => ⟨(h1.lt x hx).1, Nat.lt_of_lt_of_le (h1.lt x hx).2 hk.size⟩ }, rfl⟩
theorem RefAt.kept {S : List Nat} {w w' : World} {r : Nat} {li : Int} {A : Vals} {G : List Nat} (h : RefAt w r li A G) (hk : Kept S w w') (hn : ∀ x ∈ G, x ∉ S) : RefAt w' r li A G := by
  obtain ⟨v, vn, vk, h1, rfl⟩ := h
  exact ⟨v, vn, vk, h1.kept hk hn, rfl⟩
theorem PA.stepR {W w' : World} {B b r : Nat} {li : Int} {A' C : Vals} {bx F F' G : List Nat} (hG : RefAt W r li C G) (hd : ∀ x ∈ F, x ∉ G) (hx : ∀ x ∈ bx, x ∉ F ∧ x ∉ G ∧ x < W.heap.size) (hg : ∀ x ∈ G, B ≤ x) (hB : B ≤ W.heap.size) (hF : ∀ x ∈ F, B ≤ x)
    (hn : RealAt w' B b li A' F') (hs : SVst F F' W w') : PA w' B b r li A' C bx ∧ FrB bx W w' ∧ Below B W w' := by
  refine ⟨⟨F', G, hn, hG.kept hs.1 (fun x h1 h2 => hd x h2 h1), fun x h1 h2 => ?_, fun x h1 => ?_, hg, Nat.le_trans hB hs.1.size⟩, fun Y hY T cs ho => hs.1.obj ho (hx Y hY).1, hs.1.below hB (fun x h1 => hF x h1)⟩
  · rcases hs.2 x h1 with h3 | h3
    · exact hd x h3 h2
    · have := hG.lt x h2; omega
  · obtain ⟨h2, h3, h4⟩ := hx x h1
    exact ⟨hs.out h4 h2, h3, Nat.lt_of_lt_of_le h4 hs.1.size⟩
theorem PA.stepG {W w' : World} {B b r : Nat} {li : Int} {A C' : Vals} {bx F G G' : List Nat} (hR : RealAt W B b li A F) (hd : ∀ x ∈ F, x ∉ G) (hx : ∀ x ∈ bx, x ∉ F ∧ x ∉ G ∧ x < W.heap.size) (hg : ∀ x ∈ G, B ≤ x) (hB : B ≤ W.heap.size)
    (hn : RefAt w' r li C' G') (hs : SVst G G' W w') : PA w' B b r li A C' bx ∧ FrB bx W w' ∧ Below B W w' := by
  refine ⟨⟨F, G', hR.kept hs.1 hd, hn, fun x h1 h2 => ?_, fun x h1 => ?_, fun x h1 => ?_, Nat.le_trans hB hs.1.size⟩, fun Y hY T cs ho => hs.1.obj ho (hx Y hY).2.1, hs.1.below hB hg⟩
  · rcases hs.2 x h2 with h3 | h3
    · exact hd x h1 h3
    · have := (hR.lt x h1).2; omega
  · obtain ⟨h2, h3, h4⟩ := hx x h1
    exact ⟨h2, hs.out h4 h3, Nat.lt_of_lt_of_le h4 hs.1.size⟩
  · rcases hs.2 x h1 with h3 | h3
    · exact hg x h3
    · omega
theorem PA.belowF {w w' : World} {B b r : Nat} {li : Int} {A C : Vals} {bx : List Nat} (h : PA w B b r li A C bx) (hb : Below w.heap.size w w') : PA w' B b r li A C bx ∧ FrB bx w w' ∧ Below B w w' := by
  obtain ⟨F, G, h1, h2, h3, h4, h5, h6⟩ := h
  have hk : Kept [] w w' := Kept.of_below hb []
  exact ⟨⟨F, G, h1.kept hk (by simp), h2.kept hk (by simp), h3, fun x hx => ⟨(h4 x hx).1, (h4 x hx).2.1, Nat.lt_of_lt_of_le (h4 x hx).2.2 hb.size⟩, h5, Nat.le_trans h6 hb.size⟩, fun Y hY T cs ho => ho.below hb, hb.mono h6⟩
theorem PA.below {w w' : World} {B b r : Nat} {li : Int} {A C : Vals} {bx : List Nat} (h : PA w B b r li A C bx) (hb : Below w.heap.size w w') : PA w' B b r li A C bx := (h.belowF hb).1
theorem PA.hB {w : World} {B b r : Nat} {li : Int} {A C : Vals} {bx : List Nat} (h : PA w B b r li A C bx) : B ≤ w.heap.size := by
  obtain ⟨F, G, h1, h2, h3, h4, h5, h6⟩ := h; exact h6
/-- a block that is new at W, and no box of w -/
theorem PA.add {w W : World} {B b r : Nat} {li : Int} {A C : Vals} {bx : List Nat} (h : PA w B b r li A C bx) (hb : Below w.heap.size w W) {Y : Nat} (hY : w.heap.size ≤ Y) (hl : Y < W.heap.size) : PA W B b r li A C (Y :: bx) := by
  obtain ⟨F, G, h1, h2, h3, h4, h5, h6⟩ := h
  have hk : Kept [] w W := Kept.of_below hb []
  refine ⟨F, G, h1.kept hk (by simp), h2.kept hk (by simp), h3, fun x hx => ?_, h5, Nat.le_trans h6 hb.size⟩
  rcases List.mem_cons.1 hx with rfl | hx
  · exact ⟨fun hm => by have := (h1.lt _ hm).2; omega, fun hm => by have := h2.lt _ hm; omega, hl⟩
  · exact ⟨(h4 x hx).1, (h4 x hx).2.1, Nat.lt_of_lt_of_le (h4 x hx).2.2 hb.size⟩
theorem PA.set {w : World} {B b r : Nat} {li : Int} {A C : Vals} {bx : List Nat} (h : PA w B b r li A C bx) {Y : Nat} (hY : Y ∈ bx) (i : Nat) (u : Value) : PA (w.setCell ⟨Y, i, none⟩ u) B b r li A C bx := by
  obtain ⟨F, G, h1, h2, h3, h4, h5, h6⟩ := h
  obtain ⟨g1, g2, g3⟩ := h4 Y hY
  have hk : Kept [Y] w (w.setCell ⟨Y, i, none⟩ u) := (Kept.refl _ _).setCell (.inl (by simp)) _
  exact ⟨F, G, h1.kept hk (fun x hx hm => by simp at hm; exact g1 (hm ▸ hx)), h2.kept hk (fun x hx hm => by simp at hm; exact g2 (hm ▸ hx)), h3, fun x hx => ⟨(h4 x hx).1, (h4 x hx).2.1, by simpa using (h4 x hx).2.2⟩, h5, by simpa using h6⟩
theorem PA.set4 {w : World} {B b r : Nat} {li : Int} {A C : Vals} {bx : List Nat} (h : PA w B b r li A C bx) {Y : Nat} (hY : Y ∈ bx) (i : Nat) (x0 x1 x2 x3 : Value) : PA ((((w.setCell ⟨Y, i, none⟩ x0).setCell ⟨Y, i + 1, none⟩ x1).setCell ⟨Y, i + 2, none⟩ x2).setCell ⟨Y, i + 3, none⟩ x3) B b r li A C bx :=
  (((h.set hY i x0).set hY (i + 1) x1).set hY (i + 2) x2).set hY (i + 3) x3
theorem PA.set8 {w : World} {B b r : Nat} {li : Int} {A C : Vals} {bx : List Nat} (h : PA w B b r li A C bx) {Y : Nat} (hY : Y ∈ bx) (x0 x1 x2 x3 x4 x5 x6 x7 : Value) : PA ((((((((w.setCell ⟨Y, 0, none⟩ x0).setCell ⟨Y, 1, none⟩ x1).setCell ⟨Y, 2, none⟩ x2).setCell ⟨Y, 3, none⟩ x3).setCell ⟨Y, 4, none⟩ x4).setCell ⟨Y, 5, none⟩ x5).setCell ⟨Y, 6, none⟩ x6).setCell ⟨Y, 7, none⟩ x7) B b r li A C bx :=
  (((((((h.set hY 0 x0).set hY 1 x1).set hY 2 x2).set hY 3 x3).set hY 4 x4).set hY 5 x5).set hY 6 x6).set hY 7 x7
/-- what holds of both -/
def PI (li : Int) (A : Vals) (t : Nat) : Prop := ringE A.e A.k A.o = 0 ∧ tmB li = true ∧ A.zs.length ≤ 8 ∧ (∀ x ∈ A.zs, x.2 < A.cn) ∧ (0 ≤ A.cn ∧ A.cn ≤ (t : Int)) ∧ (0 ≤ A.n ∧ A.n ≤ A.m ∧ A.m ≤ 1000) ∧ (0 ≤ A.many ∧ A.many ≤ (t : Int)) ∧ A.z1.length ≤ 16 ∧ A.z2.length ≤ 16
/-- a contract by which the document's server goes from C to C' -/
def GoG (f : FuncId) (args : Array Value) (B b r : Nat) (li : Int) (A C C' : Vals) (res : Value) : Prop := ∀ W bx, PA W B b r li A C bx → Calls Tryz.prog f args W fun x w' => x = .returned res ∧ PA w' B b r li A C' bx ∧ FrB bx W w' ∧ Below B W w'
def GoR (f : FuncId) (args : Array Value) (B b r : Nat) (li : Int) (A A' C : Vals) (res : Value) : Prop := ∀ W bx, PA W B b r li A C bx → Calls Tryz.prog f args W fun x w' => x = .returned res ∧ PA w' B b r li A' C bx ∧ FrB bx W w' ∧ Below B W w'
theorem goG_below {f : FuncId} {args : Array Value} {B b r : Nat} {li : Int} {A C : Vals} {res : Value} (h : ∀ W G, RefAt W r li C G → Calls Tryz.prog f args W fun x w' => x = .returned res ∧ Below W.heap.size W w') : GoG f args B b r li A C C res := by
  intro W bx hP
  have hP' := hP
  obtain ⟨F, G, _, h2, _⟩ := hP'
  refine (h W G h2).mono ?_
  rintro x w' ⟨rfl, hb⟩
  exact ⟨rfl, hP.belowF hb⟩
theorem goR_below {f : FuncId} {args : Array Value} {B b r : Nat} {li : Int} {A C : Vals} {res : Value} (h : ∀ W F, RealAt W B b li A F → Calls Tryz.prog f args W fun x w' => x = .returned res ∧ Below W.heap.size W w') : GoR f args B b r li A A C res := by
  intro W bx hP
  have hP' := hP
  obtain ⟨F, G, h2, _⟩ := hP'
  refine (h W F h2).mono ?_
  rintro x w' ⟨rfl, hb⟩
  exact ⟨rfl, hP.belowF hb⟩
theorem goG_step {f : FuncId} {args : Array Value} {B b r : Nat} {li : Int} {A C C' : Vals} {res : Value} (h : ∀ W G, RefAt W r li C G → Calls Tryz.prog f args W fun x w' => x = .returned res ∧ ∃ G', RefAt w' r li C' G' ∧ SVst G G' W w') : GoG f args B b r li A C C' res := by
  rintro W bx ⟨F, G, h1, h2, h3, h4, h5, h6⟩
  refine (h W G h2).mono ?_
  rintro x w' ⟨rfl, G', hn, hs⟩
  exact ⟨rfl, PA.stepG h1 h3 h4 h5 h6 hn hs⟩
theorem goR_step {f : FuncId} {args : Array Value} {B b r : Nat} {li : Int} {A A' C : Vals} {res : Value} (h : ∀ W F, RealAt W B b li A F → B ≤ W.heap.size → Calls Tryz.prog f args W fun x w' => x = .returned res ∧ ∃ F', RealAt w' B b li A' F' ∧ SVst F F' W w') : GoR f args B b r li A A' C res := by
  rintro W bx ⟨F, G, h1, h2, h3, h4, h5, h6⟩
  refine (h W F h1 h6).mono ?_
  rintro x w' ⟨rfl, F', hn, hs⟩
  exact ⟨rfl, PA.stepR h2 h3 h4 h5 h6 (fun x hx => (h1.lt x hx).1) hn hs⟩
theorem pl_off {zs : List (Int × Int)} {cn : Int} (h : ∀ x ∈ zs, x.2 < cn) (h0 : 0 ≤ cn) (hl : zs.length < 8) (hc : cn < 4096) : offE zs 0 cn = 0 := by
  unfold offE
  rw [if_neg (by rw [show connB 0 cn = true from decide_eq_true (by omega)]; simp), if_neg, if_neg (by omega)]
  intro ha
  obtain ⟨x, hx, hp⟩ := List.any_eq_true.1 ha
  have := h x hx
  simp [cnP] at hp
  omega
theorem pl_snoc {zs : List (Int × Int)} {cn : Int} (h : ∀ x ∈ zs, x.2 < cn) : ∀ x ∈ zs ++ [(0, cn)], x.2 < cn + 1 := by
  intro x hx
  rcases List.mem_append.1 hx with hx | hx
  · have := h x hx; omega
  · simp at hx; subst hx; show cn < _; omega
/-- a ticket -/
theorem pl_ticket {B b r : Nat} {li : Int} {A : Vals} {t : Nat} (hI : PI li A t) (ht : t < 4000) (u : Int) : ∃ c0 c1 c2 c3 f C, PI li C (t + 1) ∧
    GoG 20 #[.pointer (some ⟨r, 0, none⟩), .int .i64 u] B b r li A A C (.tuple #[.agg #[.int .i64 c0, .int .i64 c1, .int .i64 c2, .int .i64 c3], .int .i64 f]) ∧
    GoR 89 #[.pointer (some ⟨b, 0, none⟩), .int .i64 u] B b r li A C C (.tuple #[.agg #[.int .i64 c0, .int .i64 c1, .int .i64 c2, .int .i64 c3], errV f]) := by
  obtain ⟨hr, hli, h8, hlt, hcn, hnm, hmy, hz1, hz2⟩ := hI
  cases hu : tmB u
  · refine ⟨0, 0, 0, 0, 1, A, ⟨hr, hli, h8, hlt, ⟨by omega, by omega⟩, hnm, ⟨by omega, by omega⟩, hz1, hz2⟩, goG_below (fun W G _ => rsTicket_bad hu W), goR_below ?_⟩
    rintro W F ⟨q, bi, bb, bv, v, va, vb, h1, _⟩
    exact svTicket_bad (c := 1) (by unfold tkmE; rw [if_neg (by simp [hr]), hu]; rfl) (by decide) W h1
  · rcases blkNext_cases A.n A.m hnm.1 hnm.2.1 hnm.2.2 with ⟨hnm', hf⟩ | ⟨n', m', hbn, hn1, hn2, hn3⟩
    · refine ⟨0, 0, 0, 0, 4, A, ⟨hr, hli, h8, hlt, ⟨by omega, by omega⟩, hnm, ⟨by omega, by omega⟩, hz1, hz2⟩, goG_below ?_, goR_step ?_⟩
      · rintro W G ⟨v, vn, vk, h1, _⟩
        have h2 := h1.q.1
        rw [← hnm'] at h2
        exact rsTicket_full hu (by omega) (by omega) W h2
      · rintro W F ⟨q, bi, bb, bv, v, va, vb, h1, rfl⟩ _
        refine (svTicket_full hr hu hnm.1 (by omega) hf hnm' W h1).mono ?_
        rintro x w' ⟨rfl, hs, hst⟩
        exact ⟨rfl, _, ⟨q, bi, bb, bv, v, va, vb, hs, rfl⟩, hst⟩
    · obtain ⟨_, hk, _⟩ := ringE_ok hr
      refine ⟨A.e, A.n, u, tagOf A.k [2, A.n, u], 0, { A with n := n', m := m', many := A.many + 1 }, ⟨hr, hli, h8, hlt, ⟨hcn.1, by show A.cn ≤ ((t + 1 : Nat) : Int); omega⟩, ⟨by show (0 : Int) ≤ n'; omega, hn2, hn3⟩, ⟨by show (0 : Int) ≤ A.many + 1; omega, by show A.many + 1 ≤ ((t + 1 : Nat) : Int); omega⟩, hz1, hz2⟩, goG_step ?_, goR_step ?_⟩
      · rintro W G ⟨v, vn, vk, h1, rfl⟩
        refine (rsTicket_ok hu hk hnm.1 hnm.2.1 hnm.2.2 hbn W h1).mono ?_
        rintro x w' ⟨rfl, hs, hst⟩
        exact ⟨rfl, _, ⟨v, vn, vk, hs, rfl⟩, hst⟩
      · rintro W F ⟨q, bi, bb, bv, v, va, vb, h1, rfl⟩ _
        refine (svTicket_ok hr hu hnm.1 hnm.2.1 hnm.2.2 hbn ⟨hmy.1, by omega⟩ W h1).mono ?_
        rintro x w' ⟨rfl, hs, hst⟩
        exact ⟨rfl, _, ⟨q, bi, bb, bv, v, va, vb, hs, rfl⟩, hst⟩
/-- a crash: the server first -/
theorem pl_crash {B b r : Nat} {li : Int} {A : Vals} {t : Nat} (hI : PI li A t) : ∃ C, PI li C (t + 1) ∧
    GoR 67 #[.pointer (some ⟨b, 0, none⟩)] B b r li A C A (.tuple #[]) ∧ GoG 26 #[.pointer (some ⟨r, 0, none⟩)] B b r li C A C (.tuple #[]) := by
  obtain ⟨hr, hli, h8, hlt, hcn, hnm, hmy, hz1, hz2⟩ := hI
  refine ⟨{ A with n := A.m, zs := [], z1 := A.z2 }, ⟨hr, hli, by simp, by simp, ⟨hcn.1, by show A.cn ≤ ((t + 1 : Nat) : Int); omega⟩, ⟨by show (0 : Int) ≤ A.m; omega, Int.le_refl _, hnm.2.2⟩, ⟨hmy.1, by show A.many ≤ ((t + 1 : Nat) : Int); omega⟩, hz2, hz2⟩, goR_step ?_, goG_step ?_⟩
  · rintro W F ⟨q, bi, bb, bv, v, va, vb, h1, rfl⟩ hB
    refine (svCrash W hB h1).mono ?_
    rintro x w' ⟨rfl, q', va', hs, hst⟩
    exact ⟨rfl, _, ⟨q', bi, bb, bv, _, va', vb, hs, rfl⟩, hst⟩
  · rintro W G ⟨v, vn, vk, h1, rfl⟩
    refine (rsCrash W h1).mono ?_
    rintro x w' ⟨rfl, hs, hst⟩
    exact ⟨rfl, _, ⟨_, _, _, hs, rfl⟩, hst⟩
/-- a hello's cells, an answer's -/
def plH (a t0 t1 t2 t3 u0 u1 u2 u3 : Int) (s : ByteArray) : Value := .agg #[.int .i64 a, .int .i64 t0, .int .i64 t1, .int .i64 t2, .int .i64 t3, .int .i64 u0, .int .i64 u1, .int .i64 u2, .int .i64 u3, .string s]
def plA (k0 k1 k2 k3 k4 k5 k6 : Int) (eb : Bool) : Value := .agg #[.int .i64 k0, .int .i64 k1, .int .i64 k2, .int .i64 k3, .int .i64 k4, .int .i64 k5, .int .i64 k6, .bool eb]
theorem PI.more {li : Int} {A : Vals} {t : Nat} (h : PI li A t) : PI li A (t + 1) := by
  obtain ⟨hr, hli, h8, hlt, hcn, hnm, hmy, hz1, hz2⟩ := h
  exact ⟨hr, hli, h8, hlt, ⟨by omega, by omega⟩, hnm, ⟨by omega, by omega⟩, hz1, hz2⟩
theorem pl_hello {B b r : Nat} {li : Int} {A : Vals} {t : Nat} (hI : PI li A t) (ht : t < 4000) (a t0 t1 t2 t3 u0 u1 u2 u3 : Int) (s : ByteArray) (hsz : s.size ≤ 9223372036854775807) (now : Int) : ∃ k0 k1 k2 k3 k4 k5 k6 eb f C, PI li C (t + 1) ∧
    GoG 39 #[.pointer (some ⟨r, 0, none⟩), plH a t0 t1 t2 t3 u0 u1 u2 u3 s, .int .i64 now] B b r li A A C (.tuple #[plA k0 k1 k2 k3 k4 k5 k6 eb, .int .i64 f]) ∧
    GoR 87 #[.pointer (some ⟨b, 0, none⟩), plH a t0 t1 t2 t3 u0 u1 u2 u3 s, .int .i64 now] B b r li A C C (.tuple #[plA k0 k1 k2 k3 k4 k5 k6 eb, errV f]) := by
  have hI' := hI.more
  obtain ⟨hr, hli, h8, hlt, hcn, hnm, hmy, hz1, hz2⟩ := hI
  obtain ⟨n', eb, c0, hA⟩ : ∃ n' eb c0, ansN A.e A.k A.o a t0 t1 t2 t3 u0 u1 u2 u3 s (A.zs.length : Int) now li = (n', eb, c0) := ⟨_, _, _, rfl⟩
  by_cases hc0 : c0 = 0
  · subst hc0
    obtain ⟨_, ha, hn, hl, hneed, heb⟩ := ans_ok hA
    have hkd : n' = 2 ∨ (n' = 1 ∧ A.zs.length < 8) ∨ n' = 0 := by
      rcases needs_cases hneed with ⟨_, hn1⟩ | ⟨_, hx, hn1⟩ | ⟨_, hx, _, hn1⟩ | ⟨_, hx, _, _, hn1⟩ | ⟨_, hx, _, _, hn1⟩
      · exact .inl hn1
      · exact .inr (.inl ⟨hn1, by omega⟩)
      · exact .inr (.inl ⟨hn1, by omega⟩)
      · exact .inr (.inl ⟨hn1, by omega⟩)
      · exact .inr (.inr hn1)
    rcases hkd with rfl | ⟨rfl, hz⟩ | rfl
    · refine ⟨2, 0, 0, 0, 0, 0, 0, false, 0, A, hI', goG_below ?_, goR_below ?_⟩
      · rintro W G ⟨v, vn, vk, h1, _⟩
        exact rsHello_busy hsz hA W h1
      · rintro W F ⟨q, bi, bb, bv, v, va, vb, h1, _⟩
        exact sHello_busy hsz hA W h1.sq
    · have hoff := pl_off hlt hcn.1 hz (by omega)
      have hcn2 : 0 ≤ A.cn ∧ A.cn < 4096 := ⟨by omega, by omega⟩
      have hl8 : (A.zs ++ [(0, A.cn)]).length ≤ 8 := by simp; omega
      have hc1 : (0 : Int) ≤ A.cn + 1 ∧ A.cn + 1 ≤ ((t + 1 : Nat) : Int) := ⟨by omega, by omega⟩
      have hm1 : 0 ≤ A.many ∧ A.many ≤ ((t + 1 : Nat) : Int) := ⟨by omega, by omega⟩
      cases eb
      · refine ⟨1, 0, 0, 0, 0, 0, A.cn, false, 0, { A with cn := A.cn + 1, zs := A.zs ++ [(0, A.cn)] }, ⟨hr, hli, hl8, pl_snoc hlt, hc1, hnm, hm1, hz1, hz2⟩, goG_step ?_, goR_step ?_⟩
        · rintro W G ⟨v, vn, vk, h1, rfl⟩
          refine (rsHello_wok hsz hA rfl hoff hcn2 W h1).mono ?_
          rintro x w' ⟨rfl, v', hs, hst⟩
          exact ⟨rfl, _, ⟨v', vn, vk, hs, rfl⟩, hst⟩
        · rintro W F ⟨q, bi, bb, bv, v, va, vb, h1, rfl⟩ hB
          refine (sHello_wok hsz hA rfl hoff hcn2 W h1.sq).mono ?_
          rintro x w' ⟨rfl, v', hs, hr', hk⟩
          obtain ⟨a1, a2⟩ := h1.steps hB hs hr' hk
          exact ⟨rfl, _, ⟨q, bi, bb, bv, v', va, vb, a1, rfl⟩, a2⟩
      · obtain ⟨c, hsp⟩ : ∃ c, spMoreE A.z1 u1 u2 now = c := ⟨_, rfl⟩
        by_cases hsc : c = 0
        · subst hsc
          have hy : (spDrop A.z1 now ++ [(u1, u2)]).length ≤ 16 := by
            obtain ⟨_, _, _, _, _, _, h6⟩ := (spMore_cases A.z1 u1 u2 now).resolve_right (fun hx => hx hsp)
            have := spDrop_le A.z1 now
            simp; omega
          refine ⟨1, 0, 0, 0, 0, 0, A.cn, true, 0, { A with cn := A.cn + 1, zs := A.zs ++ [(0, A.cn)], z1 := spDrop A.z1 now ++ [(u1, u2)], z2 := spDrop A.z1 now ++ [(u1, u2)] }, ⟨hr, hli, hl8, pl_snoc hlt, hc1, hnm, hm1, hy, hy⟩, goG_step ?_, goR_step ?_⟩
          · rintro W G ⟨v, vn, vk, h1, rfl⟩
            refine (rsHelloE_ok hsz hA rfl hoff hcn2 hz1 rfl hsp W h1).mono ?_
            rintro x w' ⟨rfl, v', v7, hs, hst⟩
            exact ⟨rfl, _, ⟨v', v7, v7, hs, rfl⟩, hst⟩
          · rintro W F ⟨q, bi, bb, bv, v, va, vb, h1, rfl⟩ hB
            refine (sHelloE_ok hsz hA rfl hoff hcn2 rfl hsp (by omega) W hB h1).mono ?_
            rintro x w' ⟨rfl, v', va', vb', a1, a2⟩
            exact ⟨rfl, _, ⟨q, bi, bb, bv, v', va', vb', a1, rfl⟩, a2⟩
        · refine ⟨1, 0, 0, 0, 0, 0, A.cn, false, 0, { A with cn := A.cn + 1, zs := A.zs ++ [(0, A.cn)] }, ⟨hr, hli, hl8, pl_snoc hlt, hc1, hnm, hm1, hz1, hz2⟩, goG_step ?_, goR_step ?_⟩
          · rintro W G ⟨v, vn, vk, h1, rfl⟩
            refine (rsHelloE_no hsz hA rfl hoff hcn2 hz1 hsp hsc W h1).mono ?_
            rintro x w' ⟨rfl, v', hs, hst⟩
            exact ⟨rfl, _, ⟨v', vn, vk, hs, rfl⟩, hst⟩
          · rintro W F ⟨q, bi, bb, bv, v, va, vb, h1, rfl⟩ hB
            refine (sHelloE_no hsz hA rfl hoff hcn2 hsp hsc W hB h1).mono ?_
            rintro x w' ⟨rfl, v', a1, a2⟩
            exact ⟨rfl, _, ⟨q, bi, bb, bv, v', va, vb, a1, rfl⟩, a2⟩
    · obtain ⟨_, hk, _⟩ := ringE_ok hr
      refine ⟨0, A.e, a, now, tagOf A.k [1, a, now], 0, 0, false, 0, A, hI', goG_below ?_, goR_below ?_⟩
      · rintro W G ⟨v, vn, vk, h1, _⟩
        exact rsHello_retry hsz hA hk ha hn W h1
      · rintro W F ⟨q, bi, bb, bv, v, va, vb, h1, _⟩
        exact sHello_retry hsz hA hr ha hn W h1.sq
  · refine ⟨0, 0, 0, 0, 0, 0, 0, false, c0, A, hI', goG_below ?_, goR_below ?_⟩
    · rintro W G ⟨v, vn, vk, h1, _⟩
      exact rsHello_err hsz hA hc0 W h1
    · rintro W F ⟨q, bi, bb, bv, v, va, vb, h1, _⟩
      exact sHello_err hsz hA hc0 W h1.sq
end Go.Proofs.YtlnghfmcofmkjaaGreatDoor
