/- server: New, Waiting, Pull by contracts. -/
import Derived.Test.YtlnghfmcofmkjaaGreatDoorRunComesProofM7
import Derived.Test.YtlnghfmcofmkjaaGreatDoorRunComesProofM10
import Derived.Test.YtlnghfmcofmkjaaGreatDoorRunComesProofM12
import Derived.Test.YtlnghfmcofmkjaaGreatDoorRunComesProofM13
namespace Go.Proofs.YtlnghfmcofmkjaaGreatDoor
open Go.RowKit

/-- the server at b: its ring, life, queue, issuer, vault, how many conns; what waits -/
structure SQ (w : World) (b : Nat) (e k o li : Int) (q bi bv : Nat) (cn : Int) (v : Value) (zs : List (Int × Int)) : Prop where
  obj : ObjAt w b 90 [.int .i64 e, .int .i64 k, .int .i64 o, .int .i64 li, .pointer (some ⟨q, 0, none⟩), .pointer (some ⟨bi, 0, none⟩), .pointer (some ⟨bv, 0, none⟩), .int .i64 cn]
  que : QAt 110 w q v zs
  ne : b ≠ q
  row : v.ownBlock ≠ some b
theorem SQ.below {w w' : World} {b : Nat} {e k o li : Int} {q bi bv : Nat} {cn : Int} {v : Value} {zs : List (Int × Int)} (h : SQ w b e k o li q bi bv cn v zs) (hb : Below w.heap.size w w') : SQ w' b e k o li q bi bv cn v zs :=
  { h with obj := h.obj.below hb, que := h.que.below hb }
theorem sWaiting {b : Nat} {e k o li : Int} {q bi bv : Nat} {cn : Int} {v : Value} {zs : List (Int × Int)} (w : World) (h : SQ w b e k o li q bi bv cn v zs) :
    Calls Tryz.prog 69 #[.pointer (some ⟨b, 0, none⟩)] w fun r w' => r = .returned (.int .i64 zs.length) ∧ Below w.heap.size w w' := by
  have c4 := h.obj.cell (i := 4) rfl
  have AL := hide (qAll q v zs w h.que)
  clear h
  go_enter Tryz.func69, Tryz.ntmps69
  go_wp2_with fail
  refine AL.out.mono ?_
  rintro r w1 ⟨va, rfl, hp, hb⟩
  obtain ⟨a1, c1, rfl⟩ : ∃ a c, va = .slice a zs.length c := by
    rcases hp.2 with ⟨rfl, a, c, rfl⟩ | ⟨b, off, c, rfl, _⟩
    · exact ⟨a, c, rfl⟩
    · exact ⟨_, c, rfl⟩
  clear hp AL
  go_wp2
  go_ret
  exact ⟨rfl, hb⟩
theorem sPull_none {b : Nat} {e k o li : Int} {q bi bv : Nat} {cn : Int} {v : Value} (w : World) (h : SQ w b e k o li q bi bv cn v []) :
    Calls Tryz.prog 90 #[.pointer (some ⟨b, 0, none⟩)] w fun r w' => r = .returned (.tuple #[.agg #[.int .i64 0, .int .i64 0], .iface 82 (.int .i64 5)]) ∧ Below w.heap.size w w' := by
  have c4 := h.obj.cell (i := 4) rfl
  have hbl := h.obj.lt
  have PU := hide (fun W (hW : Below w.heap.size w W) => qPull_none q v W (h.que.below hW))
  clear h
  go_enter Tryz.func90, Tryz.ntmps90
  go_wp2_with fail
  refine (PU.out _ ((Below.refl _ _).alloc (Nat.le_refl _) _)).mono ?_
  rintro r w1 ⟨rfl, hb1⟩
  obtain ⟨c5, d5⟩ := bcell hb1
  have hs := hb1.size
  have HB := hide (bel_a1 hb1)
  clear PU hb1
  simp at hs
  go_wp2
  exact bodyPost_ret (v := .tuple #[.agg #[.int .i64 0, .int .i64 0], .iface 82 (.int .i64 5)]) (by simp [results, Tryz.results90, go_sem, *]) rfl ⟨rfl, by first | exact HB.out | exact HB.out.setCell (Nat.le_refl _) _ | exact (HB.out.setCell (Nat.le_refl _) _).setCell (Nat.le_refl _) _⟩
theorem sPull_one {b : Nat} {e k o li : Int} {q bi bv : Nat} {cn : Int} {v : Value} {x : Int × Int} {l : List (Int × Int)} (w : World) (h : SQ w b e k o li q bi bv cn v (x :: l)) :
    Calls Tryz.prog 90 #[.pointer (some ⟨b, 0, none⟩)] w fun r w' => r = .returned (.tuple #[.agg #[.int .i64 x.1, .int .i64 x.2], .nilIface]) ∧ ∃ v', SQ w' b e k o li q bi bv cn v' l ∧ rowOf w v v' ∧ Kept (qS q v) w w' := by
  have c4 := h.obj.cell (i := 4) rfl
  have hbl := h.obj.lt
  have hql := h.que.1.lt
  have PU := hide (fun W (hW : Below w.heap.size w W) => qPull_one q v W (h.que.below hW))
  have HS := hide h
  clear h
  go_enter Tryz.func90, Tryz.ntmps90
  go_wp2_with fail
  refine (PU.out _ ((Below.refl _ _).alloc (Nat.le_refl _) _)).mono ?_
  rintro r w1 ⟨rfl, v1, hq1, hr1, hk1⟩
  have hA : Below w.heap.size w (w.alloc (.cells #[.int .i64 0, .int .i64 0] 74)) := (Below.refl _ _).alloc (Nat.le_refl _) _
  have hvl : ∀ g, v.ownBlock = some g → g < w.heap.size := fun g hg => HS.out.que.2.1.lt g hg
  have hoX := hk1.obj (ObjAt.new w 74 [.int .i64 0, .int .i64 0]) (fun hm => by
    rcases mem_qS.1 hm with e | e
    · omega
    · have := hvl _ e; omega)
  have hoS : ObjAt w1 b _ _ := hk1.obj (HS.out.obj.below hA) (fun hm => by
    rcases mem_qS.1 hm with e | e
    · exact HS.out.ne e
    · exact HS.out.row e)
  have hK : Kept (qS q v) w w1 := (Kept.of_below hA _).trans hk1
  have hr : rowOf w v v1 := hr1.imp id (fun ⟨g, h1, h2⟩ => ⟨g, h1, by simp at h2; omega⟩)
  have hn1 : v1.ownBlock ≠ some b := by
    rcases hr with e | ⟨g, e, hg⟩
    · rw [e]; exact HS.out.row
    · rw [e]; intro e2; have := Option.some.inj e2; omega
  have hn2 : v1.ownBlock ≠ some w.heap.size := by
    rcases hr1 with e | ⟨g, e, hg⟩
    · rw [e]; intro e2; have := hvl _ e2; omega
    · rw [e]; intro e2; have := Option.some.inj e2; simp at hg; omega
  have x0 := hoX.cell (i := 0) rfl
  have x1 := hoX.cell (i := 1) rfl
  have y0 := hoX.free 0
  have y1 := hoX.free 1
  have HF : Hid (∀ u1 u2 : Value, SQ ((w1.setCell ⟨w.heap.size, 0, none⟩ u1).setCell ⟨w.heap.size, 1, none⟩ u2) b e k o li q bi bv cn v1 l ∧ Kept (qS q v) w ((w1.setCell ⟨w.heap.size, 0, none⟩ u1).setCell ⟨w.heap.size, 1, none⟩ u2)) := by
    intro u1 u2
    refine ⟨{ obj := ?_, que := ⟨?_, ?_, hq1.2.2⟩, ne := HS.out.ne, row := hn1 }, ?_⟩
    · exact (hoS.setOther (a := ⟨w.heap.size, 0, none⟩) (by show b ≠ w.heap.size; omega) u1).setOther (a := ⟨w.heap.size, 1, none⟩) (by show b ≠ w.heap.size; omega) u2
    · exact (hq1.1.setOther (a := ⟨w.heap.size, 0, none⟩) (by show q ≠ w.heap.size; omega) u1).setOther (a := ⟨w.heap.size, 1, none⟩) (by show q ≠ w.heap.size; omega) u2
    · exact (hq1.2.1.setOther (a := ⟨w.heap.size, 0, none⟩) (fun g hg e => hn2 (by rw [hg]; exact congrArg some e)) u1).setOther (a := ⟨w.heap.size, 1, none⟩) (fun g hg e => hn2 (by rw [hg]; exact congrArg some e)) u2
    · exact (hK.setCell (p := ⟨w.heap.size, 0, none⟩) (Or.inr (Nat.le_refl _)) u1).setCell (p := ⟨w.heap.size, 1, none⟩) (Or.inr (Nat.le_refl _)) u2
  have HR := hide hr
  clear hoX hoS hK hr hn1 hn2 hq1 hr1 hk1 PU hvl hA HS
  go_wp2
  exact bodyPost_ret (v := .tuple #[.agg #[.int .i64 x.1, .int .i64 x.2], .nilIface]) (by simp [results, Tryz.results90, go_sem, *]) rfl ⟨rfl, v1, (HF.out _ _).1, HR.out, (HF.out _ _).2⟩
theorem sNew_bad1 {seed li : Int} (h : inB seed = false) (w : World) :
    Calls Tryz.prog 11 #[.int .i64 seed, .int .i64 li] w fun r w' => r = .returned (.tuple #[.pointer none, .iface 82 (.int .i64 1)]) ∧ Below w.heap.size w w' := by
  have RN := hide (ringNew_bad h w)
  go_enter Tryz.func11, Tryz.ntmps11
  go_wp2_with fail
  refine RN.out.mono ?_
  rintro r w1 ⟨rfl, hb1⟩
  have hs1 := hb1.size
  go_wp2
  go_ret2
  exact ⟨rfl, by go_grown⟩
theorem sNew_bad2 {seed li : Int} (h : inB seed = true) (ht : tmB li = false) (w : World) :
    Calls Tryz.prog 11 #[.int .i64 seed, .int .i64 li] w fun r w' => r = .returned (.tuple #[.pointer none, .iface 82 (.int .i64 1)]) ∧ Below w.heap.size w w' := by
  have RN := hide (ringNew_ok h w)
  have TM := hide (fun W => tokenTime_eq ht W)
  clear h ht
  go_enter Tryz.func11, Tryz.ntmps11
  go_wp2_with fail
  refine RN.out.mono ?_
  rintro r w1 ⟨rfl, hb1⟩
  have hs1 := hb1.size
  go_wp2_with fail
  refine (TM.out _).mono ?_
  rintro r w500 ⟨rfl, rfl⟩
  go_wp2
  go_ret2
  exact ⟨rfl, by go_grown⟩
theorem qNewE (W : World) : Calls Tryz.prog 29 #[] W fun e w' => ∃ q, e = .returned (.pointer (some ⟨q, 0, none⟩)) ∧ W.heap.size ≤ q ∧ QAt 110 w' q (.slice none 0 0) [] ∧ Below W.heap.size W w' :=
  (qNew W).mono fun _ _ ⟨h1, h2, h3⟩ => ⟨_, h1, Nat.le_refl _, h2, h3⟩
theorem issueNewE (W : World) : Calls Tryz.prog 30 #[] W fun e w' => ∃ bi bb, e = .returned (.pointer (some ⟨bi, 0, none⟩)) ∧ W.heap.size ≤ bb ∧ bb < bi ∧ IssAt w' bi bb 0 0 0 ∧ Below W.heap.size W w' :=
  (issueNew W).mono fun _ _ ⟨h1, h2, h3⟩ => ⟨_, _, h1, Nat.le_refl _, Nat.lt_succ_self _, h2, h3⟩
theorem vltNewE (W : World) : Calls Tryz.prog 31 #[] W fun e w' => ∃ bv, e = .returned (.pointer (some ⟨bv, 0, none⟩)) ∧ W.heap.size ≤ bv ∧ VAt w' bv [] [] ∧ Below W.heap.size W w' :=
  (vltNew W).mono fun _ _ ⟨h1, h2, h3⟩ => ⟨_, h1, Nat.le_refl _, h2, h3⟩
set_option maxHeartbeats 4000000 in
theorem sNew_ok {seed li : Int} (h : inB seed = true) (ht : tmB li = true) (w : World) :
    Calls Tryz.prog 11 #[.int .i64 seed, .int .i64 li] w fun r w' => ∃ b q bi bb bv, r = .returned (.tuple #[.pointer (some ⟨b, 0, none⟩), .nilIface]) ∧ SQ w' b 0 (tagOf seed [0]) 0 li q bi bv 0 (.slice none 0 0) [] ∧
      IssAt w' bi bb 0 0 0 ∧ VAt w' bv [] [] ∧ (w.heap.size ≤ q ∧ q < bb ∧ bb < bi ∧ bi < bv ∧ bv < b) ∧ Below w.heap.size w w' := by
  have RN := hide (ringNew_ok h w)
  have TM := hide (fun W => tokenTime_eq ht W)
  generalize tagOf seed [0] = K at RN ⊢
  clear h ht
  go_enter Tryz.func11, Tryz.ntmps11
  go_wp2_with fail
  refine RN.out.mono ?_
  rintro r w1 ⟨rfl, hb1⟩
  have hs1 := hb1.size
  go_wp2_with fail
  refine (TM.out _).mono ?_
  rintro r w500 ⟨rfl, rfl⟩
  have HX : Hid (∀ w' : World, Below (w1.heap.size + 1) (w1.alloc (.cells #[.int .i64 0, .int .i64 K, .int .i64 0] 52)) w' → w'.cell? ⟨w1.heap.size, 0, none⟩ = some (.int .i64 0) ∧ w'.cell? ⟨w1.heap.size, 1, none⟩ = some (.int .i64 K) ∧ w'.cell? ⟨w1.heap.size, 2, none⟩ = some (.int .i64 0)) := by
    intro w' hB
    have o : ObjAt w' w1.heap.size 52 [.int .i64 0, .int .i64 K, .int .i64 0] := (hB.block w1.heap.size (by omega)).trans (ObjAt.new w1 52 [.int .i64 0, .int .i64 K, .int .i64 0])
    exact ⟨o.cell (i := 0) rfl, o.cell (i := 1) rfl, o.cell (i := 2) rfl⟩
  have hrr : Below (w1.heap.size + 1) (w1.alloc (.cells #[.int .i64 0, .int .i64 K, .int .i64 0] 52)) (w1.alloc (.cells #[.int .i64 0, .int .i64 K, .int .i64 0] 52)) := Below.refl _ _
  have hB1 : Below w.heap.size w (w1.alloc (.cells #[.int .i64 0, .int .i64 K, .int .i64 0] 52)) := hb1.alloc hs1 _
  clear RN TM
  go_wp2_with fail
  go_region_held3 (fun w' => w'.cell? ⟨w1.heap.size, 0, none⟩ = some (.int .i64 0) ∧ w'.cell? ⟨w1.heap.size, 1, none⟩ = some (.int .i64 K) ∧ w'.cell? ⟨w1.heap.size, 2, none⟩ = some (.int .i64 0)) (first | exact HX.out _ (by assumption) | (refine HX.out _ ?_; go_grown) | go_keep)
    (first
      | (go_at_call 29; refine (qNewE _).mono ?_; rintro e5 w2 ⟨q, rfl, hq2, hqa2, hb2⟩; have hx2 : Below (w1.heap.size + 1) (w1.alloc (.cells #[.int .i64 0, .int .i64 K, .int .i64 0] 52)) w2 := Below.trans (by go_grown) (Below.mono hb2 (by first | omega | (simp; done) | (simp; omega))); have hs2 := hx2.size; (try simp at hs2 hq2); obtain ⟨c2, d2⟩ := bcell hb2)
      | (go_at_call 30; refine (issueNewE _).mono ?_; rintro e6 w3 ⟨bi, bb, rfl, hq3, hq3b, hqa3, hb3⟩; have hx3 : Below (w1.heap.size + 1) (w1.alloc (.cells #[.int .i64 0, .int .i64 K, .int .i64 0] 52)) w3 := Below.trans (Below.trans hx2 (Below.mono (by go_grown : Below w2.heap.size w2 _) hs2)) (Below.mono hb3 (by first | omega | (simp; done) | (simp; omega))); have hy3 : Below w2.heap.size w2 w3 := Below.trans (by go_grown) (Below.mono hb3 (by first | omega | (simp; done) | (simp; omega))); have hs3 := hx3.size; have hs3b := hy3.size; (try simp at hs3 hq3); obtain ⟨c3, d3⟩ := bcell hb3)
      | (go_at_call 31; refine (vltNewE _).mono ?_; rintro e7 w4 ⟨bv, rfl, hq4, hqa4, hb4⟩; have hy4 : Below w3.heap.size w3 w4 := Below.trans (by go_grown) (Below.mono hb4 (by first | omega | (simp; done) | (simp; omega))); have hx4 : Below (w1.heap.size + 1) (w1.alloc (.cells #[.int .i64 0, .int .i64 K, .int .i64 0] 52)) w4 := hx3.trans (hy4.mono hs3); have hs4 := hx4.size; have hs4b := hy4.size; (try simp at hs4 hq4); obtain ⟨c4, d4⟩ := bcell hb4))
  have z2 := hqa2.1.lt
  have z3 := hqa3.1.lt
  have z4 := hqa4.lt
  have HF : Hid (∀ W : World, Below w4.heap.size w4 W → QAt 110 W q (.slice none 0 0) [] ∧ IssAt W bi bb 0 0 0 ∧ VAt W bv [] [] ∧ Below w.heap.size w W) := hide (fun W hW =>
    ⟨((hqa2.below hy3).below hy4).below hW, (hqa3.below hy4).below hW, hqa4.below hW, hB1.trans ((hx4.mono (by omega)).trans (hW.mono (by omega)))⟩)
  clear hb2 hb3 hb4 c2 c3 c4 d2 d3 d4 hx2 hx3 hx4 hy3 hy4 hqa2 hqa3 hqa4 hB1 hrr HX hb1
  go_wp2
  go_ret2
  have hA : ∀ o : Obj, Below w4.heap.size w4 (w4.alloc o) := fun o => (Below.refl _ _).alloc (Nat.le_refl _) _
  obtain ⟨y1, y2, y3, y4⟩ := HF.out _ (hA (.cells #[.int .i64 0, .int .i64 K, .int .i64 0, .int .i64 li, .pointer (some ⟨q, 0, none⟩), .pointer (some ⟨bi, 0, none⟩), .pointer (some ⟨bv, 0, none⟩), .int .i64 0] 90))
  exact ⟨_, q, bi, bb, bv, rfl, { obj := ObjAt.new _ _ _, que := y1, ne := by omega, row := by simp [Value.ownBlock] }, y2, y3, by omega, y4⟩
end Go.Proofs.YtlnghfmcofmkjaaGreatDoor
