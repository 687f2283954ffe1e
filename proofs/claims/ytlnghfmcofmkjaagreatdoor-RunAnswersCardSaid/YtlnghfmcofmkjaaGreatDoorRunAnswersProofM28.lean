/- server: New, Pull, by contracts over the whole server. server: Turn, Ticket, Crash by contracts over the whole server. server: Ticket by contracts over the whole server. -/
import Derived.Test.YtlnghfmcofmkjaaGreatDoorRunAnswersProofM14
import Derived.Test.YtlnghfmcofmkjaaGreatDoorWelcome
import Derived.Test.YtlnghfmcofmkjaaGreatDoorRunAnswersProofM15
import Derived.Deep.Cut
import Derived.Deep.QuietTactic
import Derived.Deep.RegionHeld3
namespace Go.Proofs.YtlnghfmcofmkjaaGreatDoor
open Go.RowKit

/-- a step of the server's object and its queue -/
theorem SV.steps {w w' : World} {B b q bi bb bv : Nat} {e k o e' k' o' li cn cn' : Int} {v v' v1 v2 : Value} {zs zs' z1 z2 : List (Int × Int)} {n m many : Int} (h : SV w B b q bi bb bv e k o li cn v v1 v2 zs z1 z2 n m many) (hB : B ≤ w.heap.size) (hs : SQ w' b e' k' o' li q bi bv cn' v' zs') (hr : rowOf w v v') (hk : Kept (b :: qS q v) w w') :
    SV w' B b q bi bb bv e' k' o' li cn' v' v1 v2 zs' z1 z2 n m many ∧ SVst (svF b q bi bb bv v v1 v2) (svF b q bi bb bv v' v1 v2) w w' := by
  have hq := hs.que
  have hin : ∀ x, x ∈ qS q v' → x ∈ qS q v ∨ w.heap.size ≤ x := fun x hx => by
    rcases mem_qS.1 hx with rfl | hx
    · exact .inl (mem_qS.2 (.inl rfl))
    · rcases hr with e' | ⟨g, e', hg⟩
      · exact .inl (mem_qS.2 (.inr (by rw [← e']; exact hx)))
      · rw [hx] at e'; have := Option.some.inj e'; exact .inr (by omega)
  have hlt : ∀ x, x ∈ svF b q bi bb bv v v1 v2 → x < w.heap.size := fun x hx => (h.lt x hx).2
  have hbi : bi < w.heap.size := hlt _ (mem_svF.2 (.inr (.inr (.inl (.inl rfl)))))
  have hbb : bb < w.heap.size := hlt _ (mem_svF.2 (.inr (.inr (.inl (.inr rfl)))))
  have hb : b < w.heap.size := h.obj.lt
  have hvs : ∀ x, x ∈ vS bv v1 v2 → x < w.heap.size := fun x hx => hlt _ (mem_svF.2 (.inr (.inr (.inr hx))))
  refine ⟨{ obj := hs.obj, que := hq, iss := h.iss.kept hk (fun hm => ?_) (fun hm => ?_), va := h.va.kept hk (fun x hx => ?_), lt := fun x hx => ?_, d1 := ⟨fun hm => ?_, h.d1.2⟩, d2 := fun x hx => ?_, d3 := h.d3 }, ?_, ?_⟩
  · rcases List.mem_cons.1 hm with e1 | hm
    · exact h.d1.2.1.1 e1.symm
    · exact (h.d2 _ hm).1.1 rfl
  · rcases List.mem_cons.1 hm with e1 | hm
    · exact h.d1.2.1.2 e1.symm
    · exact (h.d2 _ hm).1.2 rfl
  · rcases List.mem_cons.1 hx with e1 | hx
    · rw [e1]; exact h.d1.2.2
    · exact (h.d2 x hx).2
  · rcases mem_svF.1 hx with hx | hx | hx
    · exact ⟨(h.lt x (mem_svF.2 (.inl hx))).1, Nat.lt_of_lt_of_le (h.lt x (mem_svF.2 (.inl hx))).2 hk.size⟩
    · rcases mem_qS.1 hx with rfl | hx'
      · exact ⟨(h.lt _ (mem_svF.2 (.inr (.inl (mem_qS.2 (.inl rfl)))))).1, hq.1.lt⟩
      · refine ⟨?_, hq.2.1.lt _ hx'⟩
        rcases hin x hx with h1 | h1
        · exact (h.lt _ (mem_svF.2 (.inr (.inl h1)))).1
        · omega
    · exact ⟨(h.lt x (mem_svF.2 (.inr (.inr hx)))).1, Nat.lt_of_lt_of_le (h.lt x (mem_svF.2 (.inr (.inr hx)))).2 hk.size⟩
  · rcases hin _ hm with h1 | h1
    · exact h.d1.1 h1
    · omega
  · rcases hin x hx with h1 | h1
    · exact h.d2 x h1
    · exact ⟨⟨by omega, by omega⟩, fun hm => by have := hvs _ hm; omega⟩
  · exact hk.mono (fun x hx => by
      rcases List.mem_cons.1 hx with e1 | hx
      · exact mem_svF.2 (.inl e1)
      · exact mem_svF.2 (.inr (.inl hx)))
  · intro x hx
    rcases mem_svF.1 hx with hx | hx | hx
    · exact .inl (mem_svF.2 (.inl hx))
    · exact (hin x hx).imp (fun h1 => mem_svF.2 (.inr (.inl h1))) id
    · exact .inl (mem_svF.2 (.inr (.inr hx)))
set_option maxHeartbeats 4000000 in
theorem svNew {seed li : Int} (h : inB seed = true) (ht : tmB li = true) (w : World) :
    Calls Tryz.prog 11 #[.int .i64 seed, .int .i64 li] w fun r w' => ∃ b q bi bb bv, r = .returned (.tuple #[.pointer (some ⟨b, 0, none⟩), .nilIface]) ∧ SV w' w.heap.size b q bi bb bv 0 (tagOf seed [0]) 0 li 0 (.slice none 0 0) (.slice none 0 0) (.slice none 0 0) [] [] [] 0 0 0 ∧ Below w.heap.size w w' := by
  have RN := hide (ringNew_ok h w)
  have TM := hide (fun W => tokenTime_eq ht W)
  generalize tagOf seed [0] = K at RN ⊢
  clear h ht
  go_enter Tryz.func11, Tryz.ntmps11
  go_wp2_with fail
  refine RN.out.mono ?_
  rintro r w1 ⟨rfl, hb1⟩
  have hs1 := hb1.size
  go_wp2_with fail
  refine (TM.out _).mono ?_
  rintro r w500 ⟨rfl, rfl⟩
  have HX : Hid (∀ w' : World, Below (w1.heap.size + 1) (w1.alloc (.cells #[.int .i64 0, .int .i64 K, .int .i64 0] 52)) w' → w'.cell? ⟨w1.heap.size, 0, none⟩ = some (.int .i64 0) ∧ w'.cell? ⟨w1.heap.size, 1, none⟩ = some (.int .i64 K) ∧ w'.cell? ⟨w1.heap.size, 2, none⟩ = some (.int .i64 0)) := by
    intro w' hB
    have o : ObjAt w' w1.heap.size 52 [.int .i64 0, .int .i64 K, .int .i64 0] := (hB.block w1.heap.size (by omega)).trans (ObjAt.new w1 52 [.int .i64 0, .int .i64 K, .int .i64 0])
    exact ⟨o.cell (i := 0) rfl, o.cell (i := 1) rfl, o.cell (i := 2) rfl⟩
  have hrr : Below (w1.heap.size + 1) (w1.alloc (.cells #[.int .i64 0, .int .i64 K, .int .i64 0] 52)) (w1.alloc (.cells #[.int .i64 0, .int .i64 K, .int .i64 0] 52)) := Below.refl _ _
  have hB1 : Below w.heap.size w (w1.alloc (.cells #[.int .i64 0, .int .i64 K, .int .i64 0] 52)) := hb1.alloc hs1 _
  clear RN TM
  go_wp2_with fail
  go_region_held3 (fun w' => w'.cell? ⟨w1.heap.size, 0, none⟩ = some (.int .i64 0) ∧ w'.cell? ⟨w1.heap.size, 1, none⟩ = some (.int .i64 K) ∧ w'.cell? ⟨w1.heap.size, 2, none⟩ = some (.int .i64 0)) (first | exact HX.out _ (by assumption) | (refine HX.out _ ?_; go_grown) | go_keep)
    (first
      | (go_at_call 29; refine (qNewE _).mono ?_; rintro e5 w2 ⟨q, rfl, hq2, hqa2, hb2⟩; have hx2 : Below (w1.heap.size + 1) (w1.alloc (.cells #[.int .i64 0, .int .i64 K, .int .i64 0] 52)) w2 := Below.trans (by go_grown) (Below.mono hb2 (by first | omega | (simp; done) | (simp; omega))); have hs2 := hx2.size; (try simp at hs2 hq2); obtain ⟨c2, d2⟩ := bcell hb2)
      | (go_at_call 30; refine (issueNewE _).mono ?_; rintro e6 w3 ⟨bi, bb, rfl, hq3, hq3b, hqa3, hb3⟩; have hx3 : Below (w1.heap.size + 1) (w1.alloc (.cells #[.int .i64 0, .int .i64 K, .int .i64 0] 52)) w3 := Below.trans (Below.trans hx2 (Below.mono (by go_grown : Below w2.heap.size w2 _) hs2)) (Below.mono hb3 (by first | omega | (simp; done) | (simp; omega))); have hy3 : Below w2.heap.size w2 w3 := Below.trans (by go_grown) (Below.mono hb3 (by first | omega | (simp; done) | (simp; omega))); have hs3 := hx3.size; have hs3b := hy3.size; (try simp at hs3 hq3); obtain ⟨c3, d3⟩ := bcell hb3)
      | (go_at_call 31; refine (vaNew _).mono ?_; rintro e7 w4 ⟨bv, rfl, hq4, hqa4, hb4⟩; have hy4 : Below w3.heap.size w3 w4 := Below.trans (by go_grown) (Below.mono hb4 (by first | omega | (simp; done) | (simp; omega))); have hx4 : Below (w1.heap.size + 1) (w1.alloc (.cells #[.int .i64 0, .int .i64 K, .int .i64 0] 52)) w4 := hx3.trans (hy4.mono hs3); have hs4 := hx4.size; have hs4b := hy4.size; (try simp at hs4 hq4); obtain ⟨c4, d4⟩ := bcell hb4))
  have z2 := hqa2.1.lt
  have z3 := hqa3.1.lt
  have z4 := hqa4.1.lt
  have HF : Hid (∀ W : World, Below w4.heap.size w4 W → QAt 110 W q (.slice none 0 0) [] ∧ IssAt W bi bb 0 0 0 ∧ VA W bv (.slice none 0 0) (.slice none 0 0) [] [] ∧ Below w.heap.size w W) := hide (fun W hW =>
    ⟨((hqa2.below hy3).below hy4).below hW, (hqa3.below hy4).below hW, hqa4.below hW, hB1.trans ((hx4.mono (by omega)).trans (hW.mono (by omega)))⟩)
  clear hb2 hb3 hb4 c2 c3 c4 d2 d3 d4 hx2 hx3 hx4 hy3 hy4 hqa2 hqa3 hqa4 hB1 hrr HX hb1
  go_wp2
  go_ret2
  have hA : ∀ o : Obj, Below w4.heap.size w4 (w4.alloc o) := fun o => (Below.refl _ _).alloc (Nat.le_refl _) _
  obtain ⟨y1, y2, y3, y4⟩ := HF.out _ (hA (.cells #[.int .i64 0, .int .i64 K, .int .i64 0, .int .i64 li, .pointer (some ⟨q, 0, none⟩), .pointer (some ⟨bi, 0, none⟩), .pointer (some ⟨bv, 0, none⟩), .int .i64 0] 90))
  have hmq : ∀ x, x ∈ qS q (.slice none 0 0) → x = q := fun x hx => by
    rcases mem_qS.1 hx with e | e
    · exact e
    · simp [Value.ownBlock] at e
  have hmv : ∀ x, x ∈ vS bv (.slice none 0 0) (.slice none 0 0) → x = bv := fun x hx => by
    rcases mem_vS.1 hx with e | e | e
    · exact e
    · simp [Value.ownBlock] at e
    · simp [Value.ownBlock] at e
  refine ⟨_, q, bi, bb, bv, rfl, { obj := ObjAt.new _ _ _, que := y1, iss := y2, va := y3, lt := fun x hx => ?_, d1 := ⟨fun hm => ?_, ⟨by omega, by omega⟩, fun hm => ?_⟩, d2 := fun x hx => ⟨?_, fun hm => ?_⟩, d3 := ⟨fun hm => ?_, fun hm => ?_⟩ }, y4⟩
  · have hsz : (w4.alloc (.cells #[.int .i64 0, .int .i64 K, .int .i64 0, .int .i64 li, .pointer (some ⟨q, 0, none⟩), .pointer (some ⟨bi, 0, none⟩), .pointer (some ⟨bv, 0, none⟩), .int .i64 0] 90)).heap.size = w4.heap.size + 1 := by simp
    rw [hsz]
    rcases mem_svF.1 hx with hx | hx | (hx | hx) | hx
    · omega
    · have := hmq x hx; omega
    · omega
    · omega
    · have := hmv x hx; omega
  · have := hmq _ hm; omega
  · have := hmv _ hm; omega
  · have := hmq x hx; exact ⟨by omega, by omega⟩
  · have := hmq x hx; have := hmv x hm; omega
  · have := hmv _ hm; omega
  · have := hmv _ hm; omega
end Go.Proofs.YtlnghfmcofmkjaaGreatDoor

namespace Go.Proofs.YtlnghfmcofmkjaaGreatDoor
open Go.RowKit

theorem kept_b (b q : Nat) (v : Value) {w w' : World} (h : Kept [b] w w') : Kept (b :: qS q v) w w' := h.mono (fun x hx => by simp at hx; rw [hx]; exact List.mem_cons_self ..)
theorem svTurn_full {B b q bi bb bv : Nat} {k o li cn : Int} {v v1 v2 : Value} {zs z1 z2 : List (Int × Int)} {n m many : Int} (hr : ringE 100 k o = 0) (w : World) (h : SV w B b q bi bb bv 100 k o li cn v v1 v2 zs z1 z2 n m many) :
    Calls Tryz.prog 66 #[.pointer (some ⟨b, 0, none⟩)] w fun r w' => r = .returned (.iface 82 (.int .i64 4)) ∧ Below w.heap.size w w' := by
  have c0 := h.obj.cell (i := 0) rfl
  have c1 := h.obj.cell (i := 1) rfl
  have c2 := h.obj.cell (i := 2) rfl
  have RT := hide (ringTurn_full hr w)
  clear h hr
  go_enter Tryz.func66, Tryz.ntmps66
  go_wp2_with fail
  refine RT.out.mono ?_
  rintro r w1 ⟨rfl, hb1⟩
  have hs1 := hb1.size
  go_wp2
  go_ret
  exact ⟨rfl, by go_grown⟩
set_option maxHeartbeats 4000000 in
theorem svTurn_ok {B b q bi bb bv : Nat} {e k o li cn : Int} {v v1 v2 : Value} {zs z1 z2 : List (Int × Int)} {n m many : Int} (hr : ringE e k o = 0) (he : e < 100) (w : World) (hB : B ≤ w.heap.size) (h : SV w B b q bi bb bv e k o li cn v v1 v2 zs z1 z2 n m many) :
    Calls Tryz.prog 66 #[.pointer (some ⟨b, 0, none⟩)] w fun r w' => r = .returned .nilIface ∧ SV w' B b q bi bb bv (e + 1) (tagOf k [e + 1]) k li cn v v1 v2 zs z1 z2 n m many ∧ SVst (svF b q bi bb bv v v1 v2) (svF b q bi bb bv v v1 v2) w w' := by
  have c0 := h.obj.cell (i := 0) rfl
  have c1 := h.obj.cell (i := 1) rfl
  have c2 := h.obj.cell (i := 2) rfl
  have RT := hide (ringTurn_ok hr he w)
  generalize tagOf k [e + 1] = K at RT ⊢
  have HS := hide h
  have hbl := h.obj.lt
  clear h hr he
  go_enter Tryz.func66, Tryz.ntmps66
  go_wp2_with fail
  refine RT.out.mono ?_
  rintro r w1 ⟨rfl, hb1⟩
  have hs1 := hb1.size
  obtain ⟨W, hW⟩ : ∃ W, W = w1.alloc (.cells #[.int .i64 (e + 1), .int .i64 K, .int .i64 k] 52) := ⟨_, rfl⟩
  have hbW : Below w.heap.size w W := by rw [hW]; exact hb1.alloc hs1 _
  have HX : Hid (ObjAt W w1.heap.size 52 [.int .i64 (e + 1), .int .i64 K, .int .i64 k]) := by rw [hW]; exact ObjAt.new _ _ _
  have HSW := hide (HS.out.below hbW)
  have hbW2 : b < W.heap.size := Nat.lt_of_lt_of_le hbl hbW.size
  have x0 := HX.out.cell (i := 0) rfl
  have x1 := HX.out.cell (i := 1) rfl
  have x2 := HX.out.cell (i := 2) rfl
  have y0 := HSW.out.obj.cell (i := 0) rfl
  have y1 := HSW.out.obj.cell (i := 1) rfl
  have y2 := HSW.out.obj.cell (i := 2) rfl
  have f0 := HSW.out.obj.free 0
  have f1 := HSW.out.obj.free 1
  have f2 := HSW.out.obj.free 2
  have HF : Hid (∀ W', W' = ((W.setCell ⟨b, 0, none⟩ (.int .i64 (e + 1))).setCell ⟨b, 1, none⟩ (.int .i64 K)).setCell ⟨b, 2, none⟩ (.int .i64 k) → SV W' B b q bi bb bv (e + 1) K k li cn v v1 v2 zs z1 z2 n m many ∧ SVst (svF b q bi bb bv v v1 v2) (svF b q bi bb bv v v1 v2) w W') := by
    intro W' hW'
    subst hW'
    have g := HSW.out.sq
    have hk : Kept [b] W (((W.setCell ⟨b, 0, none⟩ (.int .i64 (e + 1))).setCell ⟨b, 1, none⟩ (.int .i64 K)).setCell ⟨b, 2, none⟩ (.int .i64 k)) :=
      (((Kept.refl [b] W).setCell (p := ⟨b, 0, none⟩) (.inl (by simp)) _).setCell (p := ⟨b, 1, none⟩) (.inl (by simp)) _).setCell (p := ⟨b, 2, none⟩) (.inl (by simp)) _
    have hs : SQ (((W.setCell ⟨b, 0, none⟩ (.int .i64 (e + 1))).setCell ⟨b, 1, none⟩ (.int .i64 K)).setCell ⟨b, 2, none⟩ (.int .i64 k)) b (e + 1) K k li q bi bv cn v zs :=
      { obj := ((g.obj.set 0 (.int .i64 (e + 1))).set 1 (.int .i64 K)).set 2 (.int .i64 k)
        que := g.que.kept hk (by simp; exact Ne.symm g.ne) (fun g' hg' hm => by simp at hm; exact g.row (by rw [hg', hm]))
        ne := g.ne, row := g.row }
    obtain ⟨a1, a2⟩ := HSW.out.steps (Nat.le_trans hB hbW.size) hs (.inl rfl) (kept_b b q v hk)
    exact ⟨a1, SVst.pre hbW a2⟩
  clear HS HX hb1 c0 c1 c2 RT
  go_upto_region 2 with (fail)
  rw [← hW]
  clear hW HSW hbW
  go_wp2
  go_ret
  exact ⟨rfl, HF.out _ rfl⟩
theorem SV.newq {w w' : World} {B b q q' bi bb bv : Nat} {e k o li cn : Int} {v v1 v2 : Value} {zs z1 z2 : List (Int × Int)} {n m many : Int} (h : SV w B b q bi bb bv e k o li cn v v1 v2 zs z1 z2 n m many) (hB : B ≤ w.heap.size) (hq : QAt 110 w' q' (.slice none 0 0) []) (hn : w.heap.size ≤ q') (hk : Kept [b] w w')
    (ho : ObjAt w' b 90 [.int .i64 e, .int .i64 k, .int .i64 o, .int .i64 li, .pointer (some ⟨q', 0, none⟩), .pointer (some ⟨bi, 0, none⟩), .pointer (some ⟨bv, 0, none⟩), .int .i64 cn]) :
    SV w' B b q' bi bb bv e k o li cn (.slice none 0 0) v1 v2 [] z1 z2 n m many ∧ SVst (svF b q bi bb bv v v1 v2) (svF b q' bi bb bv (.slice none 0 0) v1 v2) w w' := by
  have hmq : ∀ x, x ∈ qS q' (.slice none 0 0) → x = q' := fun x hx => by
    rcases mem_qS.1 hx with e | e
    · exact e
    · simp [Value.ownBlock] at e
  have hlt : ∀ x, x ∈ svF b q bi bb bv v v1 v2 → x < w.heap.size := fun x hx => (h.lt x hx).2
  have hbi : bi < w.heap.size := hlt _ (mem_svF.2 (.inr (.inr (.inl (.inl rfl)))))
  have hbb : bb < w.heap.size := hlt _ (mem_svF.2 (.inr (.inr (.inl (.inr rfl)))))
  have hb : b < w.heap.size := h.obj.lt
  have hvs : ∀ x, x ∈ vS bv v1 v2 → x < w.heap.size := fun x hx => hlt _ (mem_svF.2 (.inr (.inr (.inr hx))))
  refine ⟨{ obj := ho, que := hq, iss := h.iss.kept hk (by simp; exact Ne.symm h.d1.2.1.1) (by simp; exact Ne.symm h.d1.2.1.2), va := h.va.kept hk (fun x hx => by simp at hx; rw [hx]; exact h.d1.2.2), lt := fun x hx => ?_, d1 := ⟨fun hm => ?_, h.d1.2⟩, d2 := fun x hx => ?_, d3 := h.d3 }, ?_, ?_⟩
  · have old : ∀ x, x ∈ svF b q bi bb bv v v1 v2 → B ≤ x ∧ x < w'.heap.size := fun x hx => ⟨(h.lt x hx).1, Nat.lt_of_lt_of_le (h.lt x hx).2 hk.size⟩
    rcases mem_svF.1 hx with hx | hx | hx
    · exact old x (mem_svF.2 (.inl hx))
    · rw [hmq x hx]; exact ⟨by omega, hq.1.lt⟩
    · exact old x (mem_svF.2 (.inr (.inr hx)))
  · have := hmq _ hm; omega
  · have := hmq x hx
    exact ⟨⟨by omega, by omega⟩, fun hm => by have := hvs _ hm; omega⟩
  · exact hk.mono (fun x hx => by simp at hx; exact mem_svF.2 (.inl hx))
  · intro x hx
    rcases mem_svF.1 hx with hx | hx | hx
    · exact .inl (mem_svF.2 (.inl hx))
    · exact .inr (by rw [hmq x hx]; exact hn)
    · exact .inl (mem_svF.2 (.inr (.inr hx)))
set_option maxHeartbeats 4000000 in
theorem svCrash {B b q bi bb bv : Nat} {e k o li cn : Int} {v v1 v2 : Value} {zs z1 z2 : List (Int × Int)} {n m many : Int} (w : World) (hB : B ≤ w.heap.size) (h : SV w B b q bi bb bv e k o li cn v v1 v2 zs z1 z2 n m many) :
    Calls Tryz.prog 67 #[.pointer (some ⟨b, 0, none⟩)] w fun r w' => r = .returned (.tuple #[]) ∧ ∃ q' v1', SV w' B b q' bi bb bv e k o li cn (.slice none 0 0) v1' v2 [] z2 z2 m m many ∧ SVst (svF b q bi bb bv v v1 v2) (svF b q' bi bb bv (.slice none 0 0) v1' v2) w w' := by
  have hbl := h.obj.lt
  have HS := hide h
  clear h
  go_enter Tryz.func67, Tryz.ntmps67
  go_wp2_with fail
  refine (qNewE _).mono ?_
  rintro r w1 ⟨q', rfl, hq', hqa, hb1⟩
  have hS1 := HS.out.below hb1
  have f4 := hS1.obj.free 4
  have c4 := hS1.obj.cell (i := 4) rfl
  have hl1 := hS1.obj.lt
  obtain ⟨W, hW⟩ : ∃ W, W = w1.setCell ⟨b, 4, none⟩ (.pointer (some ⟨q', 0, none⟩)) := ⟨_, rfl⟩
  have hkb : Kept [b] w1 W := by rw [hW]; exact (Kept.refl _ _).setCell (p := ⟨b, 4, none⟩) (.inl (by simp)) _
  have hkw : Kept [b] w W := (Kept.of_below hb1 _).trans hkb
  have hoW : ObjAt W b 90 [.int .i64 e, .int .i64 k, .int .i64 o, .int .i64 li, .pointer (some ⟨q', 0, none⟩), .pointer (some ⟨bi, 0, none⟩), .pointer (some ⟨bv, 0, none⟩), .int .i64 cn] := by rw [hW]; exact hS1.obj.set 4 _
  have hqW : QAt 110 W q' (.slice none 0 0) [] := hqa.kept hkb (by simp; omega) (fun g hg => by simp [Value.ownBlock] at hg)
  obtain ⟨a1, a2⟩ := HS.out.newq hB hqW hq' hkw hoW
  have HSW := hide a1
  have HTW := hide a2
  have hBW : B ≤ W.heap.size := Nat.le_trans hB hkw.size
  clear hS1 hb1 hqa hkb hkw hoW hqW a1 a2 HS hl1
  have p5 := HSW.out.obj.cell (i := 5) rfl
  go_upto_region 1 with (fail)
  rw [← hW]
  clear hW f4 c4
  go_wp2_with fail
  refine (issueCrash _ _ _ _ _ _ HSW.out.iss).mono ?_
  rintro r w2 ⟨rfl, hi2, hk2⟩
  obtain ⟨a1, a2⟩ := HSW.out.stepi hi2 hk2
  have HS2 := hide a1
  have HT2 := hide (HTW.out.trans a2)
  have hB2 : B ≤ w2.heap.size := Nat.le_trans hBW hk2.size
  clear hi2 hk2 a1 a2 HSW HTW p5
  have p6 := HS2.out.obj.cell (i := 6) rfl
  go_wp2_with fail
  refine (vaCrash _ _ HS2.out.va).mono ?_
  rintro r w3 ⟨rfl, v1', hv3, hn3, hk3⟩
  obtain ⟨a1, a2⟩ := HS2.out.stepv hB2 hv3 (.inr (.inr hn3)) (.inl rfl) hk3
  have HS3 := hide a1
  have HT3 := hide (HT2.out.trans a2)
  clear hv3 hn3 hk3 a1 a2 HS2 HT2 p6
  go_wp2
  go_returns
  exact ⟨rfl, q', v1', HS3.out, HT3.out⟩
end Go.Proofs.YtlnghfmcofmkjaaGreatDoor

namespace Go.Proofs.YtlnghfmcofmkjaaGreatDoor
open Go.RowKit

theorem SVst.set {F F' : List Nat} {w w' : World} (h : SVst F F' w w') {X : Nat} (hX : w.heap.size ≤ X) (i : Nat) (u : Value) : SVst F F' w (w'.setCell ⟨X, i, none⟩ u) := ⟨h.1.setCell (p := ⟨X, i, none⟩) (.inr hX) u, h.2⟩
theorem SV.set4 {w : World} {B b q bi bb bv : Nat} {e k o li cn : Int} {v v1 v2 : Value} {zs z1 z2 : List (Int × Int)} {n m many : Int} (h : SV w B b q bi bb bv e k o li cn v v1 v2 zs z1 z2 n m many) {X : Nat} (hX : X ∉ svF b q bi bb bv v v1 v2) (x0 x1 x2 x3 : Value) : SV ((((w.setCell ⟨X, 0, none⟩ x0).setCell ⟨X, 1, none⟩ x1).setCell ⟨X, 2, none⟩ x2).setCell ⟨X, 3, none⟩ x3) B b q bi bb bv e k o li cn v v1 v2 zs z1 z2 n m many :=
  (((h.set hX 0 x0).set hX 1 x1).set hX 2 x2).set hX 3 x3
theorem SVst.set4 {F F' : List Nat} {w w' : World} (h : SVst F F' w w') {X : Nat} (hX : w.heap.size ≤ X) (x0 x1 x2 x3 : Value) : SVst F F' w ((((w'.setCell ⟨X, 0, none⟩ x0).setCell ⟨X, 1, none⟩ x1).setCell ⟨X, 2, none⟩ x2).setCell ⟨X, 3, none⟩ x3) :=
  (((h.set hX 0 x0).set hX 1 x1).set hX 2 x2).set hX 3 x3
theorem st_keep {w2 : World} {b X : Nat} {c0 c1 c2 c5 : Value} (hn : b ≠ X) (K : w2.cell? ⟨b, 0, none⟩ = some c0 ∧ w2.cell? ⟨b, 1, none⟩ = some c1 ∧ w2.cell? ⟨b, 2, none⟩ = some c2 ∧ w2.cell? ⟨b, 5, none⟩ = some c5) (x0 x1 x2 x3 : Value) :
    ((((w2.setCell ⟨X, 0, none⟩ x0).setCell ⟨X, 1, none⟩ x1).setCell ⟨X, 2, none⟩ x2).setCell ⟨X, 3, none⟩ x3).cell? ⟨b, 0, none⟩ = some c0 ∧ ((((w2.setCell ⟨X, 0, none⟩ x0).setCell ⟨X, 1, none⟩ x1).setCell ⟨X, 2, none⟩ x2).setCell ⟨X, 3, none⟩ x3).cell? ⟨b, 1, none⟩ = some c1 ∧ ((((w2.setCell ⟨X, 0, none⟩ x0).setCell ⟨X, 1, none⟩ x1).setCell ⟨X, 2, none⟩ x2).setCell ⟨X, 3, none⟩ x3).cell? ⟨b, 2, none⟩ = some c2 ∧ ((((w2.setCell ⟨X, 0, none⟩ x0).setCell ⟨X, 1, none⟩ x1).setCell ⟨X, 2, none⟩ x2).setCell ⟨X, 3, none⟩ x3).cell? ⟨b, 5, none⟩ = some c5 := by
  have e : ∀ i, ((((w2.setCell ⟨X, 0, none⟩ x0).setCell ⟨X, 1, none⟩ x1).setCell ⟨X, 2, none⟩ x2).setCell ⟨X, 3, none⟩ x3).cell? ⟨b, i, none⟩ = w2.cell? ⟨b, i, none⟩ := fun i => by
    rw [World.cell?_setCell_far _ _ _ _ (fun h => hn h.symm), World.cell?_setCell_far _ _ _ _ (fun h => hn h.symm), World.cell?_setCell_far _ _ _ _ (fun h => hn h.symm), World.cell?_setCell_far _ _ _ _ (fun h => hn h.symm)]
  rw [e, e, e, e]
  exact K
theorem bel_set4 {B X : Nat} {a w : World} (h : Below B a w) (hX : B ≤ X) (x0 x1 x2 x3 : Value) : Below B a ((((w.setCell ⟨X, 0, none⟩ x0).setCell ⟨X, 1, none⟩ x1).setCell ⟨X, 2, none⟩ x2).setCell ⟨X, 3, none⟩ x3) :=
  (((h.setCell (p := ⟨X, 0, none⟩) hX x0).setCell (p := ⟨X, 1, none⟩) hX x1).setCell (p := ⟨X, 2, none⟩) hX x2).setCell (p := ⟨X, 3, none⟩) hX x3
set_option maxHeartbeats 4000000 in
theorem svTicket_bad {B b q bi bb bv : Nat} {e k o li cn : Int} {v v1 v2 : Value} {zs z1 z2 : List (Int × Int)} {n m many : Int} {u c : Int} (hc : tkmE e k o 0 u = c) (h0 : c ≠ 0) (w : World) (h : SV w B b q bi bb bv e k o li cn v v1 v2 zs z1 z2 n m many) :
    Calls Tryz.prog 89 #[.pointer (some ⟨b, 0, none⟩), .int .i64 u] w fun r w' => r = .returned (.tuple #[.agg #[.int .i64 0, .int .i64 0, .int .i64 0, .int .i64 0], errV c]) ∧ Below w.heap.size w w' := by
  have IC := hide (fun W => issue_bad bi e k o u c W hc h0)
  clear hc h0
  have HS := hide h
  have hbl := h.obj.lt
  have hF : w.heap.size ∉ svF b q bi bb bv v v1 v2 := fun hm => by have := (h.lt _ hm).2; omega
  obtain ⟨W1, hW1⟩ : ∃ W1, W1 = w.alloc (.cells #[.int .i64 0, .int .i64 0, .int .i64 0, .int .i64 0] 67) := ⟨_, rfl⟩
  have hA1 : Below w.heap.size w W1 := by rw [hW1]; exact (Below.refl _ _).alloc (Nat.le_refl _) _
  have HO1 : Hid (ObjAt W1 w.heap.size 67 [.int .i64 0, .int .i64 0, .int .i64 0, .int .i64 0]) := by rw [hW1]; exact ObjAt.new _ _ _
  have HS1 := hide (h.below hA1)
  have hz1 : w.heap.size < W1.heap.size := HO1.out.lt
  have HKS : Hid (∀ w' : World, Below W1.heap.size W1 w' → w'.cell? ⟨b, 0, none⟩ = some (.int .i64 e) ∧ w'.cell? ⟨b, 1, none⟩ = some (.int .i64 k) ∧ w'.cell? ⟨b, 2, none⟩ = some (.int .i64 o) ∧ w'.cell? ⟨b, 5, none⟩ = some (.pointer (some ⟨bi, 0, none⟩))) := fun w' hB => ⟨(HS1.out.below hB).obj.cell (i := 0) rfl, (HS1.out.below hB).obj.cell (i := 1) rfl, (HS1.out.below hB).obj.cell (i := 2) rfl, (HS1.out.below hB).obj.cell (i := 5) rfl⟩
  clear h HS
  go_enter Tryz.func89, Tryz.ntmps89
  go_upto_region 1 with (fail)
  rw [← hW1]
  clear hW1
  have hbX : b ≠ w.heap.size := Nat.ne_of_lt hbl
  have hrr := Below.refl W1.heap.size W1
  obtain ⟨mm0, mm1, mm2, mm3⟩ := HKS.out _ hrr
  go_region_held3 (fun w' => w'.cell? ⟨b, 0, none⟩ = some (.int .i64 e) ∧ w'.cell? ⟨b, 1, none⟩ = some (.int .i64 k) ∧ w'.cell? ⟨b, 2, none⟩ = some (.int .i64 o) ∧ w'.cell? ⟨b, 5, none⟩ = some (.pointer (some ⟨bi, 0, none⟩))) (first | with_reducible assumption | with_reducible (refine st_keep hbX ?_ _ _ _ _; assumption) | go_keep)
    (first | (go_at_call 108; refine (IC.out _).mono ?_; rintro e5 w2 ⟨rfl, hb2⟩; have hw2 : Below W1.heap.size W1 w2 := Below.trans (by go_grown) (Below.mono hb2 (by first | omega | (simp; done) | (simp; omega))); have KK := HKS.out _ hw2; have HO2 := hide (HO1.out.below hw2); have r0 := HO2.out.cell (i := 0) rfl; have r1 := HO2.out.cell (i := 1) rfl; have r2 := HO2.out.cell (i := 2) rfl; have r3 := HO2.out.cell (i := 3) rfl; have f0 := HO2.out.free 0; have f1 := HO2.out.free 1; have f2 := HO2.out.free 2; have f3 := HO2.out.free 3))
  have HB2 := hide (hA1.trans (hw2.mono hA1.size))
  clear hrr mm0 mm1 mm2 mm3 KK IC HKS HS1 HO1 hb2 hw2
  go_wp2
  exact bodyPost_ret (v := .tuple #[.agg #[.int .i64 0, .int .i64 0, .int .i64 0, .int .i64 0], errV c]) (by simp [results, Tryz.results89, go_sem, *]) rfl ⟨rfl, bel_set4 HB2.out (Nat.le_refl _) _ _ _ _⟩
set_option maxHeartbeats 4000000 in
theorem svTicket_ok {B b q bi bb bv : Nat} {e k o li cn : Int} {v v1 v2 : Value} {zs z1 z2 : List (Int × Int)} {n m many : Int} {u x n' m' : Int} (hr : ringE e k o = 0) (hu : tmB u = true) (h0 : 0 ≤ n) (h1 : n ≤ m) (h2 : m ≤ 1000) (hbn : blkNext n m = (x, 0, n', m')) (hm : 0 ≤ many ∧ many ≤ 100000) (w : World) (h : SV w B b q bi bb bv e k o li cn v v1 v2 zs z1 z2 n m many) :
    Calls Tryz.prog 89 #[.pointer (some ⟨b, 0, none⟩), .int .i64 u] w fun r w' => r = .returned (.tuple #[.agg #[.int .i64 e, .int .i64 x, .int .i64 u, .int .i64 (tagOf k [2, x, u])], .nilIface]) ∧ SV w' B b q bi bb bv e k o li cn v v1 v2 zs z1 z2 n' m' (many + 1) ∧ SVst (svF b q bi bb bv v v1 v2) (svF b q bi bb bv v v1 v2) w w' := by
  have IC := hide (fun W (hi : IssAt W bi bb n m many) => issue_ok bi bb e k o u n m x n' m' many W hi hr hu h0 h1 h2 hbn hm)
  clear hr hu h0 h1 h2 hbn hm
  generalize tagOf k [2, x, u] = tg at IC ⊢
  have HS := hide h
  have hbl := h.obj.lt
  have hF : w.heap.size ∉ svF b q bi bb bv v v1 v2 := fun hm => by have := (h.lt _ hm).2; omega
  obtain ⟨W1, hW1⟩ : ∃ W1, W1 = w.alloc (.cells #[.int .i64 0, .int .i64 0, .int .i64 0, .int .i64 0] 67) := ⟨_, rfl⟩
  have hA1 : Below w.heap.size w W1 := by rw [hW1]; exact (Below.refl _ _).alloc (Nat.le_refl _) _
  have HO1 : Hid (ObjAt W1 w.heap.size 67 [.int .i64 0, .int .i64 0, .int .i64 0, .int .i64 0]) := by rw [hW1]; exact ObjAt.new _ _ _
  have HS1 := hide (h.below hA1)
  have hz1 : w.heap.size < W1.heap.size := HO1.out.lt
  have HKS : Hid (∀ w' : World, Below W1.heap.size W1 w' → w'.cell? ⟨b, 0, none⟩ = some (.int .i64 e) ∧ w'.cell? ⟨b, 1, none⟩ = some (.int .i64 k) ∧ w'.cell? ⟨b, 2, none⟩ = some (.int .i64 o) ∧ w'.cell? ⟨b, 5, none⟩ = some (.pointer (some ⟨bi, 0, none⟩))) := fun w' hB => ⟨(HS1.out.below hB).obj.cell (i := 0) rfl, (HS1.out.below hB).obj.cell (i := 1) rfl, (HS1.out.below hB).obj.cell (i := 2) rfl, (HS1.out.below hB).obj.cell (i := 5) rfl⟩
  clear h HS
  go_enter Tryz.func89, Tryz.ntmps89
  go_upto_region 1 with (fail)
  rw [← hW1]
  clear hW1
  have hbX : b ≠ w.heap.size := Nat.ne_of_lt hbl
  have hrr := Below.refl W1.heap.size W1
  obtain ⟨mm0, mm1, mm2, mm3⟩ := HKS.out _ hrr
  go_region_held3 (fun w' => w'.cell? ⟨b, 0, none⟩ = some (.int .i64 e) ∧ w'.cell? ⟨b, 1, none⟩ = some (.int .i64 k) ∧ w'.cell? ⟨b, 2, none⟩ = some (.int .i64 o) ∧ w'.cell? ⟨b, 5, none⟩ = some (.pointer (some ⟨bi, 0, none⟩))) (first | with_reducible assumption | with_reducible (refine st_keep hbX ?_ _ _ _ _; assumption) | go_keep)
    (first | (go_at_call 108; refine (IC.out _ (HS1.out.below (by go_grown : Below W1.heap.size W1 _)).iss).mono ?_; rintro e5 w2 ⟨rfl, hi2, hk2⟩; have HQ2 := hide ((HS1.out.below (by go_grown : Below W1.heap.size W1 _)).stepi hi2 hk2); have HT2 := hide (SVst.pre (hA1.trans (Below.mono (by go_grown : Below W1.heap.size W1 _) hA1.size)) HQ2.out.2); have HO2 := hide (hk2.obj (HO1.out.below (by go_grown : Below W1.heap.size W1 _)) (fun hm => hF (mem_svF.2 (.inr (.inr (.inl (by simpa using hm))))))); have KK : w2.cell? ⟨b, 0, none⟩ = some (.int .i64 e) ∧ w2.cell? ⟨b, 1, none⟩ = some (.int .i64 k) ∧ w2.cell? ⟨b, 2, none⟩ = some (.int .i64 o) ∧ w2.cell? ⟨b, 5, none⟩ = some (.pointer (some ⟨bi, 0, none⟩)) := ⟨HQ2.out.1.obj.cell (i := 0) rfl, HQ2.out.1.obj.cell (i := 1) rfl, HQ2.out.1.obj.cell (i := 2) rfl, HQ2.out.1.obj.cell (i := 5) rfl⟩; have r0 := HO2.out.cell (i := 0) rfl; have r1 := HO2.out.cell (i := 1) rfl; have r2 := HO2.out.cell (i := 2) rfl; have r3 := HO2.out.cell (i := 3) rfl; have f0 := HO2.out.free 0; have f1 := HO2.out.free 1; have f2 := HO2.out.free 2; have f3 := HO2.out.free 3; clear hi2 hk2))
  clear hrr mm0 mm1 mm2 mm3 KK IC HKS HS1 HO1
  go_wp2
  exact bodyPost_ret (v := .tuple #[.agg #[.int .i64 e, .int .i64 x, .int .i64 u, .int .i64 tg], .nilIface]) (by simp [results, Tryz.results89, go_sem, *]) rfl ⟨rfl, HQ2.out.1.set4 hF _ _ _ _, HT2.out.set4 (Nat.le_refl _) _ _ _ _⟩
set_option maxHeartbeats 4000000 in
theorem svTicket_full {B b q bi bb bv : Nat} {e k o li cn : Int} {v v1 v2 : Value} {zs z1 z2 : List (Int × Int)} {n m many : Int} {u : Int} (hr : ringE e k o = 0) (hu : tmB u = true) (h0 : 0 ≤ n) (h1 : n ≤ 1000) (h2 : 1000 < n + 8) (hnm : n = m) (w : World) (h : SV w B b q bi bb bv e k o li cn v v1 v2 zs z1 z2 n m many) :
    Calls Tryz.prog 89 #[.pointer (some ⟨b, 0, none⟩), .int .i64 u] w fun r w' => r = .returned (.tuple #[.agg #[.int .i64 0, .int .i64 0, .int .i64 0, .int .i64 0], .iface 82 (.int .i64 4)]) ∧ SV w' B b q bi bb bv e k o li cn v v1 v2 zs z1 z2 n m many ∧ SVst (svF b q bi bb bv v v1 v2) (svF b q bi bb bv v v1 v2) w w' := by
  subst hnm
  have IC := hide (fun W (hi : IssAt W bi bb n n many) => issue_full bi bb e k o u n many W hi hr hu h0 h1 h2)
  clear hr hu h0 h1 h2
  have HS := hide h
  have hbl := h.obj.lt
  have hF : w.heap.size ∉ svF b q bi bb bv v v1 v2 := fun hm => by have := (h.lt _ hm).2; omega
  obtain ⟨W1, hW1⟩ : ∃ W1, W1 = w.alloc (.cells #[.int .i64 0, .int .i64 0, .int .i64 0, .int .i64 0] 67) := ⟨_, rfl⟩
  have hA1 : Below w.heap.size w W1 := by rw [hW1]; exact (Below.refl _ _).alloc (Nat.le_refl _) _
  have HO1 : Hid (ObjAt W1 w.heap.size 67 [.int .i64 0, .int .i64 0, .int .i64 0, .int .i64 0]) := by rw [hW1]; exact ObjAt.new _ _ _
  have HS1 := hide (h.below hA1)
  have hz1 : w.heap.size < W1.heap.size := HO1.out.lt
  have HKS : Hid (∀ w' : World, Below W1.heap.size W1 w' → w'.cell? ⟨b, 0, none⟩ = some (.int .i64 e) ∧ w'.cell? ⟨b, 1, none⟩ = some (.int .i64 k) ∧ w'.cell? ⟨b, 2, none⟩ = some (.int .i64 o) ∧ w'.cell? ⟨b, 5, none⟩ = some (.pointer (some ⟨bi, 0, none⟩))) := fun w' hB => ⟨(HS1.out.below hB).obj.cell (i := 0) rfl, (HS1.out.below hB).obj.cell (i := 1) rfl, (HS1.out.below hB).obj.cell (i := 2) rfl, (HS1.out.below hB).obj.cell (i := 5) rfl⟩
  clear h HS
  go_enter Tryz.func89, Tryz.ntmps89
  go_upto_region 1 with (fail)
  rw [← hW1]
  clear hW1
  have hbX : b ≠ w.heap.size := Nat.ne_of_lt hbl
  have hrr := Below.refl W1.heap.size W1
  obtain ⟨mm0, mm1, mm2, mm3⟩ := HKS.out _ hrr
  go_region_held3 (fun w' => w'.cell? ⟨b, 0, none⟩ = some (.int .i64 e) ∧ w'.cell? ⟨b, 1, none⟩ = some (.int .i64 k) ∧ w'.cell? ⟨b, 2, none⟩ = some (.int .i64 o) ∧ w'.cell? ⟨b, 5, none⟩ = some (.pointer (some ⟨bi, 0, none⟩))) (first | with_reducible assumption | with_reducible (refine st_keep hbX ?_ _ _ _ _; assumption) | go_keep)
    (first | (go_at_call 108; refine (IC.out _ (HS1.out.below (by go_grown : Below W1.heap.size W1 _)).iss).mono ?_; rintro e5 w2 ⟨rfl, hi2, hk2⟩; have HQ2 := hide ((HS1.out.below (by go_grown : Below W1.heap.size W1 _)).stepi hi2 hk2); have HT2 := hide (SVst.pre (hA1.trans (Below.mono (by go_grown : Below W1.heap.size W1 _) hA1.size)) HQ2.out.2); have HO2 := hide (hk2.obj (HO1.out.below (by go_grown : Below W1.heap.size W1 _)) (fun hm => hF (mem_svF.2 (.inr (.inr (.inl (by simpa using hm))))))); have KK : w2.cell? ⟨b, 0, none⟩ = some (.int .i64 e) ∧ w2.cell? ⟨b, 1, none⟩ = some (.int .i64 k) ∧ w2.cell? ⟨b, 2, none⟩ = some (.int .i64 o) ∧ w2.cell? ⟨b, 5, none⟩ = some (.pointer (some ⟨bi, 0, none⟩)) := ⟨HQ2.out.1.obj.cell (i := 0) rfl, HQ2.out.1.obj.cell (i := 1) rfl, HQ2.out.1.obj.cell (i := 2) rfl, HQ2.out.1.obj.cell (i := 5) rfl⟩; have r0 := HO2.out.cell (i := 0) rfl; have r1 := HO2.out.cell (i := 1) rfl; have r2 := HO2.out.cell (i := 2) rfl; have r3 := HO2.out.cell (i := 3) rfl; have f0 := HO2.out.free 0; have f1 := HO2.out.free 1; have f2 := HO2.out.free 2; have f3 := HO2.out.free 3; clear hi2 hk2))
  clear hrr mm0 mm1 mm2 mm3 KK IC HKS HS1 HO1
  go_wp2
  exact bodyPost_ret (v := .tuple #[.agg #[.int .i64 0, .int .i64 0, .int .i64 0, .int .i64 0], .iface 82 (.int .i64 4)]) (by simp [results, Tryz.results89, go_sem, *]) rfl ⟨rfl, HQ2.out.1.set4 hF _ _ _ _, HT2.out.set4 (Nat.le_refl _) _ _ _ _⟩
end Go.Proofs.YtlnghfmcofmkjaaGreatDoor
