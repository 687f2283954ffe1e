/- queue: New, Offer by contracts. queue: Pull, All by contracts. slices.Delete at []api.Conn; queue: Drop by contract. foldref1: Conn by contract. -/
import Derived.Test.YtlnghfmcofmkjaaGreatDoorRunAnswersProofM6
import Derived.Deep.RegionHeld3
import Derived.Deep.AppendLies
import Derived.Deep.RegionLaw
import Derived.Lib.SliceRun
import Derived.Test.YtlnghfmcofmkjaaGreatDoorRunAnswersProofM5
import Derived.Handy
namespace Go.Proofs.YtlnghfmcofmkjaaGreatDoor
open Go.RowKit

/-- the block b holds a struct of one slice v, which holds zs -/
def QAt (T : TypeId) (w : World) (b : Nat) (v : Value) (zs : List (Int × Int)) : Prop := ObjAt w b T [v] ∧ QRow w v zs ∧ v.ownBlock ≠ some b
theorem QAt.below {T : TypeId} {w w' : World} {b : Nat} {v : Value} {zs : List (Int × Int)} (h : QAt T w b v zs) (hb : Below w.heap.size w w') : QAt T w' b v zs := ⟨h.1.below hb, h.2.1.below hb, h.2.2⟩
theorem QAt.kept {T : TypeId} {S : List Nat} {w w' : World} {b : Nat} {v : Value} {zs : List (Int × Int)} (h : QAt T w b v zs) (hk : Kept S w w') (h1 : b ∉ S) (h2 : ∀ g, v.ownBlock = some g → g ∉ S) : QAt T w' b v zs := ⟨hk.obj h.1 h1, h.2.1.kept hk h2, h.2.2⟩
theorem qrow_form {w : World} {v : Value} {zs : List (Int × Int)} (h : QRow w v zs) : ∃ a c, v = .slice a zs.length c := by
  rcases h.2 with ⟨rfl, rfl⟩ | ⟨b, off, c, rfl, _⟩
  · exact ⟨none, 0, rfl⟩
  · exact ⟨_, c, rfl⟩
/-- the fault of one that is offered -/
def offE (zs : List (Int × Int)) (s n : Int) : Int := if connB s n = false then 1 else if zs.any (cnP s n) = true then 7 else if 8 ≤ zs.length then 4 else 0
/-- what may turn: the queue's block, and the block of its row -/
def qS (b : Nat) (v : Value) : List Nat := b :: v.ownBlock.toList
theorem mem_qS {b k : Nat} {v : Value} : k ∈ qS b v ↔ k = b ∨ v.ownBlock = some k := by
  unfold qS
  cases v.ownBlock with
  | none => simp
  | some g => simp [eq_comm]
/-- the row of v' is that of v, or is new -/
def rowOf (w : World) (v v' : Value) : Prop := v'.ownBlock = v.ownBlock ∨ ∃ g, v'.ownBlock = some g ∧ w.heap.size ≤ g
theorem qNew (w : World) : Calls Tryz.prog 29 #[] w fun e w' => e = .returned (.pointer (some ⟨w.heap.size, 0, none⟩)) ∧ QAt 110 w' w.heap.size (.slice none 0 0) [] ∧ Below w.heap.size w w' := by
  go_enter Tryz.func29, Tryz.ntmps29
  go_wp2
  go_ret
  exact ⟨rfl, ⟨ObjAt.new _ _ _, QRow.nil _, by simp [Value.ownBlock]⟩, (Below.refl _ _).alloc (Nat.le_refl _) _⟩
set_option maxHeartbeats 4000000 in
theorem qOffer_bad {c s n : Int} {zs : List (Int × Int)} (hc : offE zs s n = c) (h0 : c ≠ 0) (h8 : zs.length ≤ 8) (b : Nat) (v : Value) (w : World) (h : QAt 110 w b v zs) :
    Calls Tryz.prog 128 #[.pointer (some ⟨b, 0, none⟩), .agg #[.int .i64 s, .int .i64 n]] w fun e w' => e = .returned (errV c) ∧ Below w.heap.size w w' := by
  unfold offE at hc
  cases hv : connB s n
  · rw [if_pos hv] at hc
    subst hc
    have CR := hide (fun W => connRight_eq hv W)
    clear hv h0 h
    go_enter Tryz.func128, Tryz.ntmps128
    go_wp2_with fail
    refine (CR.out _).mono ?_
    rintro e w1 ⟨rfl, hb1⟩
    go_wp2
    go_ret
    exact ⟨rfl, bel_a1 hb1⟩
  · rw [if_neg (by rw [hv]; simp)] at hc
    have CR := hide (fun W => connRight_eq hv W)
    obtain ⟨q, hq⟩ : ∃ q, zs.any (cnP s n) = q := ⟨_, rfl⟩
    obtain ⟨a, cp, rfl⟩ := qrow_form h.2.1
    have HQ := hide h
    have CC : Hid (∀ W, Below w.heap.size w W → Calls Tryz.prog 148 #[.slice a zs.length cp, .agg #[.int .i64 s, .int .i64 n]] W fun e w' => e = .returned (.bool q) ∧ Below W.heap.size W w') := by
      intro W hW
      have := cnContains s n _ zs W ((HQ.out.below hW).2.1.psl)
      rwa [hq] at this
    rw [hq] at hc
    clear hv h hq
    go_enter Tryz.func128, Tryz.ntmps128
    go_wp2_with fail
    refine (CR.out _).mono ?_
    rintro e w1 ⟨rfl, hb1⟩
    have hB1 : Below w.heap.size w w1 := bel_a1 hb1
    have HQ1 := hide (HQ.out.below hB1)
    have hX1 : ObjAt w1 w.heap.size 74 [.int .i64 s, .int .i64 n] := (ObjAt.new _ _ _).below hb1
    have c0 := HQ1.out.1.cell (i := 0) rfl
    have c1 := hX1.cell (i := 0) rfl
    have c2 := hX1.cell (i := 1) rfl
    have y0 := HQ1.out.1.lt
    have y1 := hX1.lt
    have HS : Hid (∀ w' : World, Below w1.heap.size w1 w' → w'.cell? ⟨b, 0, none⟩ = some (.slice a zs.length cp) ∧ w'.cell? ⟨w.heap.size, 0, none⟩ = some (.int .i64 s) ∧ w'.cell? ⟨w.heap.size, 1, none⟩ = some (.int .i64 n)) :=
      fun w' hB => ⟨(hB.cell (p := ⟨b, 0, none⟩) y0).trans c0, (hB.cell (p := ⟨w.heap.size, 0, none⟩) y1).trans c1, (hB.cell (p := ⟨w.heap.size, 1, none⟩) y1).trans c2⟩
    have hrr := Below.refl w1.heap.size w1
    clear hb1 hX1
    go_wp2_with fail
    go_region_held3 (fun w' => w'.cell? ⟨b, 0, none⟩ = some (.slice a zs.length cp) ∧ w'.cell? ⟨w.heap.size, 0, none⟩ = some (.int .i64 s) ∧ w'.cell? ⟨w.heap.size, 1, none⟩ = some (.int .i64 n)) (first | exact HS.out _ (by assumption) | (refine HS.out _ ?_; go_grown) | go_keep)
      (first | (go_at_call 148; refine (CC.out _ (hB1.trans (Below.mono (by go_grown : Below w1.heap.size w1 _) hB1.size))).mono ?_; rintro e5 w2 ⟨rfl, hb2⟩; have hw2 : Below w1.heap.size w1 w2 := Below.trans (by go_grown) (Below.mono hb2 (by first | omega | (simp; done) | (simp; omega))); have hs2 := hb2.size; (try simp at hs2); obtain ⟨c5, d5⟩ := bcell hb2))
    have hB2 : Below w.heap.size w w2 := hB1.trans (hw2.mono hB1.size)
    obtain ⟨k0, k1, k2⟩ := HS.out _ hw2
    clear hb2 c5 d5 hs2 hrr c0 c1 c2 hw2 HS HQ1
    cases q
    · rw [if_neg (by simp)] at hc
      by_cases h8' : 8 ≤ zs.length
      · rw [if_pos h8'] at hc
        subst hc
        have t8 : ((zs.length : Int) == 8) = true := by simp; omega
        clear h0
        go_wp2
        go_ret
        exact ⟨rfl, hB2⟩
      · rw [if_neg h8'] at hc; exact absurd hc.symm h0
    · rw [if_pos rfl] at hc
      subst hc
      clear h0
      go_wp2
      go_ret
      exact ⟨rfl, hB2⟩
/-- what holds behind the append of one to a queue's row, in a world W that has grown of w2 -/
theorem offer_fin {T : TypeId} {w w2 : World} {b : Nat} {v : Value} {zs ns : List (Int × Int)} {s n : Int} (h : QAt T w b v zs) (hB2 : Below w.heap.size w w2) (h2 : QAt T w2 b v zs) (yx : w.heap.size < w2.heap.size)
    (k1 : w2.cell? ⟨w.heap.size, 0, none⟩ = some (.int .i64 s)) (k2 : w2.cell? ⟨w.heap.size, 1, none⟩ = some (.int .i64 n)) (hns : zs ++ [(s, n)] = ns) :
    ∀ (W w3 : World) (v3 : Value), Below w2.heap.size w2 W → QRow w3 v3 (zs ++ [(s, n)]) → W.grownBy w3 v.ownBlock → (v3.ownBlock = v.ownBlock ∨ ∃ g, v3.ownBlock = some g ∧ W.heap.size ≤ g) →
      w3.cell? ⟨b, 0, none⟩ = some v ∧ w3.cell? ⟨w.heap.size, 0, none⟩ = some (.int .i64 s) ∧ w3.cell? ⟨w.heap.size, 1, none⟩ = some (.int .i64 n) ∧ w3.frozen? ⟨b, 0, none⟩ = false ∧
        ObjAt w3 b T [v] ∧ QRow w3 v3 ns ∧ (rowOf w v v3 ∧ v3.ownBlock ≠ some b) ∧ Kept (qS b v) w w3 := by
  intro W w3 v3 hW hq hg hv
  have hz1 := hB2.size
  have hz2 := hW.size
  have ho : ObjAt w3 b T [v] := grown_obj hg (h2.1.below hW) (fun k hk e => h2.2.2 (by rw [hk, e]))
  have hne : some w.heap.size ≠ v.ownBlock := fun e => by have := h.2.1.lt _ e.symm; omega
  have hb := h.1.lt
  refine ⟨ho.cell (i := 0) rfl, ?_, ?_, ho.free 0, ho, by rw [← hns]; exact hq, ⟨?_, ?_⟩, ?_⟩
  · exact (hg.cell_far ⟨w.heap.size, 0, none⟩ (show w.heap.size < W.heap.size by omega) hne).trans ((hW.cell (p := ⟨w.heap.size, 0, none⟩) yx).trans k1)
  · exact (hg.cell_far ⟨w.heap.size, 1, none⟩ (show w.heap.size < W.heap.size by omega) hne).trans ((hW.cell (p := ⟨w.heap.size, 1, none⟩) yx).trans k2)
  · rcases hv with e | ⟨g, e, hge⟩
    · exact .inl e
    · exact .inr ⟨g, e, by omega⟩
  · rcases hv with e | ⟨g, e, hge⟩
    · rw [e]; exact h.2.2
    · rw [e]
      intro e2
      have := Option.some.inj e2
      omega
  · exact Kept.grown (Kept.of_below (hB2.trans (hW.mono hB2.size)) _) hg (fun k hk => Or.inl (mem_qS.2 (Or.inr hk)))
set_option maxHeartbeats 4000000 in
theorem qOffer_ok {s n : Int} {zs ns : List (Int × Int)} (hns : zs ++ [(s, n)] = ns) (hc : offE zs s n = 0) (b : Nat) (v : Value) (w : World) (h : QAt 110 w b v zs) :
    Calls Tryz.prog 128 #[.pointer (some ⟨b, 0, none⟩), .agg #[.int .i64 s, .int .i64 n]] w fun e w' => e = .returned .nilIface ∧ ∃ v', QAt 110 w' b v' ns ∧ rowOf w v v' ∧ Kept (qS b v) w w' := by
  unfold offE at hc
  cases hv : connB s n
  · rw [if_pos hv] at hc; exact absurd hc (by decide)
  · rw [if_neg (by rw [hv]; simp)] at hc
    cases hq : zs.any (cnP s n)
    · rw [if_neg (by rw [hq]; simp)] at hc
      by_cases h8' : 8 ≤ zs.length
      · rw [if_pos h8'] at hc; exact absurd hc (by decide)
      · have CR := hide (fun W => connRight_eq hv W)
        obtain ⟨a, cp, rfl⟩ := qrow_form h.2.1
        have HQ := hide h
        have CC : Hid (∀ W, Below w.heap.size w W → Calls Tryz.prog 148 #[.slice a zs.length cp, .agg #[.int .i64 s, .int .i64 n]] W fun e w' => e = .returned (.bool false) ∧ Below W.heap.size W w') := by
          intro W hW
          have := cnContains s n _ zs W ((HQ.out.below hW).2.1.psl)
          rwa [hq] at this
        have HNS := hide hns
        have t8 : ((zs.length : Int) == 8) = false := by simp; omega
        have yb := h.1.lt
        clear hv h hq hc hns
        go_enter Tryz.func128, Tryz.ntmps128
        go_wp2_with fail
        refine (CR.out _).mono ?_
        rintro e w1 ⟨rfl, hb1⟩
        have hB1 : Below w.heap.size w w1 := bel_a1 hb1
        have HQ1 := hide (HQ.out.below hB1)
        have hX1 : ObjAt w1 w.heap.size 74 [.int .i64 s, .int .i64 n] := (ObjAt.new _ _ _).below hb1
        have c0 := HQ1.out.1.cell (i := 0) rfl
        have c1 := hX1.cell (i := 0) rfl
        have c2 := hX1.cell (i := 1) rfl
        have y0 := HQ1.out.1.lt
        have y1 := hX1.lt
        have HS : Hid (∀ w' : World, Below w1.heap.size w1 w' → w'.cell? ⟨b, 0, none⟩ = some (.slice a zs.length cp) ∧ w'.cell? ⟨w.heap.size, 0, none⟩ = some (.int .i64 s) ∧ w'.cell? ⟨w.heap.size, 1, none⟩ = some (.int .i64 n)) :=
          fun w' hB => ⟨(hB.cell (p := ⟨b, 0, none⟩) y0).trans c0, (hB.cell (p := ⟨w.heap.size, 0, none⟩) y1).trans c1, (hB.cell (p := ⟨w.heap.size, 1, none⟩) y1).trans c2⟩
        have hrr := Below.refl w1.heap.size w1
        clear hb1 hX1
        go_wp2_with fail
        go_region_held3 (fun w' => w'.cell? ⟨b, 0, none⟩ = some (.slice a zs.length cp) ∧ w'.cell? ⟨w.heap.size, 0, none⟩ = some (.int .i64 s) ∧ w'.cell? ⟨w.heap.size, 1, none⟩ = some (.int .i64 n)) (first | exact HS.out _ (by assumption) | (refine HS.out _ ?_; go_grown) | go_keep)
          (first | (go_at_call 148; refine (CC.out _ (hB1.trans (Below.mono (by go_grown : Below w1.heap.size w1 _) hB1.size))).mono ?_; rintro e5 w2 ⟨rfl, hb2⟩; have hw2 : Below w1.heap.size w1 w2 := Below.trans (by go_grown) (Below.mono hb2 (by first | omega | (simp; done) | (simp; omega))); have hs2 := hb2.size; (try simp at hs2); obtain ⟨c5, d5⟩ := bcell hb2))
        have hB2 : Below w.heap.size w w2 := hB1.trans (hw2.mono hB1.size)
        have HQ2 := hide (HQ1.out.below hw2)
        obtain ⟨k0, k1, k2⟩ := HS.out _ hw2
        have yy : b < w2.heap.size := HQ2.out.1.lt
        have yx : w.heap.size < w2.heap.size := by have := hw2.size; omega
        have HS2 : Hid (∀ w' : World, Below w2.heap.size w2 w' → w'.cell? ⟨b, 0, none⟩ = some (.slice a zs.length cp) ∧ w'.cell? ⟨w.heap.size, 0, none⟩ = some (.int .i64 s) ∧ w'.cell? ⟨w.heap.size, 1, none⟩ = some (.int .i64 n)) :=
          fun w' hB => ⟨(hB.cell (p := ⟨b, 0, none⟩) yy).trans k0, (hB.cell (p := ⟨w.heap.size, 0, none⟩) yx).trans k1, (hB.cell (p := ⟨w.heap.size, 1, none⟩) yx).trans k2⟩
        have fb := HQ2.out.1.free 0
        have QF := hide (offer_fin (T := 110) (s := s) (n := n) HQ.out hB2 HQ2.out yx k1 k2 HNS.out)
        clear hb2 c5 d5 hs2 hrr c0 c1 c2 hw2 HS HQ1
        have hrr := Below.refl w2.heap.size w2
        go_wp2_with fail
        go_region_law
          ((refine step_append_q _ rfl (.tmp 30) (.tmp 32) rfl (by simp [Act.eval]) (QRow.below HQ2.out.2.1 (by go_grown)) (by omega) ⟨w2.heap.size, 0, none⟩ 1 (s, n) (by simp [Act.eval]) (by simp [Addr.add]) (by simp [Addr.add]) ?_; intro v3 w3 hq3 hg3 hv3
            obtain ⟨a3, c3, hf3⟩ := qrow_form hq3
            obtain ⟨m3, hm3⟩ : ∃ m, m = (zs ++ [(s, n)]).length := ⟨_, rfl⟩
            rw [← hm3] at hf3
            clear hm3
            subst hf3
            have HT3 := QF.out _ w3 _ (by go_grown) hq3 hg3 hv3
            have HS3 : w3.cell? ⟨b, 0, none⟩ = some (.slice a zs.length cp) ∧ w3.cell? ⟨w.heap.size, 0, none⟩ = some (.int .i64 s) ∧ w3.cell? ⟨w.heap.size, 1, none⟩ = some (.int .i64 n) := ⟨HT3.1, HT3.2.1, HT3.2.2.1⟩
            have fb3 : w3.frozen? ⟨b, 0, none⟩ = false := HT3.2.2.2.1
            have HZ3 := hide HT3.2.2.2.2
            clear hq3 hg3 hv3 HT3))
        all_goals go_wp2
        all_goals go_ret
        all_goals obtain ⟨z1, z2, z3, z4⟩ := HZ3.out
        all_goals exact ⟨rfl, _, ⟨z1.set 0 _, z2.setOther (fun g hg e => z3.2 (by rw [hg, e])) _, z3.2⟩, z3.1, z4.setCell (Or.inl (mem_qS.2 (Or.inl rfl))) _⟩
    · rw [if_pos hq] at hc; exact absurd hc (by decide)
end Go.Proofs.YtlnghfmcofmkjaaGreatDoor

namespace Go.Proofs.YtlnghfmcofmkjaaGreatDoor
open Go.RowKit

theorem qrow_cons {w : World} {v : Value} {x : Int × Int} {l : List (Int × Int)} (h : QRow w v (x :: l)) : ∃ g off cap, v = .slice (some ⟨g, off, none⟩) (l.length + 1) cap ∧ l.length + 1 ≤ cap ∧ cap ≤ maxLen ∧ g < w.heap.size ∧
    w.cell? ⟨g, off, none⟩ = some (.int .i64 x.1) ∧ w.cell? ⟨g, off + 1, none⟩ = some (.int .i64 x.2) ∧
    (cap ≠ 1 → QRow w (.slice (some ⟨g, off + 2, none⟩) l.length (cap - 1)) l) ∧ (cap = 1 → l = [] ∧ QRow w (.slice (some ⟨g, off, none⟩) 0 0) l) := by
  obtain ⟨h0, ⟨h1, _⟩ | ⟨g, off, cap, rfl, h2, h3, h4, h5, h6⟩⟩ := h
  · cases h1
  · have hl : (x :: l).length = l.length + 1 := rfl
    rw [hl] at h0 h2
    have hp := h5 0 (by simp)
    refine ⟨g, off, cap, rfl, h2, h3, h4, by simpa using hp.1, by simpa using hp.2, fun hc => ?_, fun hc => ?_⟩
    · refine ⟨by omega, .inr ⟨g, off + 2, cap - 1, rfl, by omega, by omega, h4, fun j hj => ?_, fun t ht => ?_⟩⟩
      · have := h5 (j + 1) (by rw [hl]; omega)
        rw [show off + (j + 1) * 2 = off + 2 + j * 2 by omega] at this
        simpa using this
      · have := h6 (t + 2) (by omega)
        rwa [show off + (t + 2) = off + 2 + t by omega] at this
    · subst hc
      have hl0 : l = [] := List.eq_nil_of_length_eq_zero (by omega)
      subst hl0
      exact ⟨rfl, by simp, .inr ⟨g, off, 0, rfl, Nat.le_refl _, by unfold maxLen; omega, h4, fun j hj => by simp at hj, fun t ht => by omega⟩⟩
theorem qPull_none (b : Nat) (v : Value) (w : World) (h : QAt 110 w b v []) :
    Calls Tryz.prog 109 #[.pointer (some ⟨b, 0, none⟩)] w fun e w' => e = .returned (.tuple #[.agg #[.int .i64 0, .int .i64 0], .iface 82 (.int .i64 5)]) ∧ Below w.heap.size w w' := by
  obtain ⟨a, c, rfl⟩ := qrow_form h.2.1
  have c0 := h.1.cell (i := 0) rfl
  have y0 := h.1.lt
  simp only [List.length_nil] at c0
  clear h
  go_enter Tryz.func109, Tryz.ntmps109
  go_wp2
  exact bodyPost_ret (v := .tuple #[.agg #[.int .i64 0, .int .i64 0], .iface 82 (.int .i64 5)]) (by simp [results, Tryz.results109, go_sem, *]) rfl ⟨rfl, by go_grown⟩
set_option maxHeartbeats 4000000 in
theorem qPull_one {x : Int × Int} {l : List (Int × Int)} (b : Nat) (v : Value) (w : World) (h : QAt 110 w b v (x :: l)) :
    Calls Tryz.prog 109 #[.pointer (some ⟨b, 0, none⟩)] w fun e w' => e = .returned (.tuple #[.agg #[.int .i64 x.1, .int .i64 x.2], .nilIface]) ∧ ∃ v', QAt 110 w' b v' l ∧ rowOf w v v' ∧ Kept (qS b v) w w' := by
  obtain ⟨g, off, cap, rfl, h2, h3, h4, q0, q1, r1, r2⟩ := qrow_cons h.2.1
  obtain ⟨x1, x2⟩ := x
  simp only at q0 q1
  have HO := hide h.1
  have hne : g ≠ b := fun e => h.2.2 (by rw [← e]; rfl)
  have c0 := h.1.cell (i := 0) rfl
  have f0 := h.1.free 0
  have y0 := h.1.lt
  have R1 := hide r1
  have R2 := hide r2
  unfold maxLen at h3
  obtain ⟨m, hm⟩ : ∃ m, m = l.length := ⟨_, rfl⟩
  rw [← hm] at c0 h2
  have HM := hide hm
  clear h r1 r2 hm
  have hK : ∀ (W : World) (u : Value), Below w.heap.size w W → Kept (qS b (.slice (some ⟨g, off, none⟩) (l.length + 1) cap)) w (W.setCell ⟨b, 0, none⟩ u) := fun W u hW => (Kept.of_below hW _).setCell (p := ⟨b, 0, none⟩) (Or.inl (mem_qS.2 (Or.inl rfl))) u
  have HKK := hide hK
  have hQ : ∀ (W : World) (u : Value), Below w.heap.size w W → QRow w u l → (u.ownBlock = some g) → QAt 110 (W.setCell ⟨b, 0, none⟩ u) b u l := fun W u hW hq hu =>
    ⟨(HO.out.below hW).set 0 u, (hq.below hW).setOther (fun g' hg' e => by rw [hu] at hg'; exact hne ((Option.some.inj hg').trans e)) u, fun e => by rw [hu] at e; exact hne (Option.some.inj e)⟩
  have HQQ := hide hQ
  clear hK hQ
  by_cases hc : cap = 1
  · subst hc
    obtain rfl : m = 0 := by omega
    go_enter Tryz.func109, Tryz.ntmps109
    go_wp2
    obtain ⟨rfl, hq⟩ := R2.out (by first | rfl | trivial)
    exact bodyPost_ret (v := .tuple #[.agg #[.int .i64 x1, .int .i64 x2], .nilIface]) (by simp [results, Tryz.results109, go_sem, *]) rfl ⟨rfl, _, QAt.below (HQQ.out w _ (Below.refl _ _) hq rfl) (by go_grown), .inl rfl, ((HKK.out w _ (Below.refl _ _)).alloc _).alloc _⟩
  · have hc2 : (cap == 1) = false := beq_eq_false_iff_ne.2 hc
    have hc3 : 1 ≤ cap := by omega
    go_enter Tryz.func109, Tryz.ntmps109
    go_wp2
    have hq := R1.out hc
    rw [← HM.out] at hq
    exact bodyPost_ret (v := .tuple #[.agg #[.int .i64 x1, .int .i64 x2], .nilIface]) (by simp [results, Tryz.results109, go_sem, *]) rfl ⟨rfl, _, QAt.below (HQQ.out w _ (Below.refl _ _) hq rfl) (by go_grown), .inl rfl, ((HKK.out w _ (Below.refl _ _)).alloc _).alloc _⟩
set_option maxHeartbeats 2000000 in
theorem cnClone_some (ad : Addr) (c : Nat) (zs : List (Int × Int)) (w : World) (hl : zs.length ≤ 1000) (hc : ∀ j u, (flat zs)[j]? = some u → w.cell? (ad.add j) = some u) :
    Calls Tryz.prog 114 #[.slice (some ad) zs.length c] w fun e w' => ∃ v', e = .returned v' ∧ w'.ownsRow w.heap.size 74 2 v' zs.length (flat zs) ∧ Below w.heap.size w w' := by
  have q22 : ∀ (w : World) (a : Option Addr) (n c n' c' : Nat), (binOp .eql 53 (.slice a n c) (.slice none n' c')).run Tryz.prog w = .ok (.bool a.isNone) w := fun w a n c n' c' => Lib.run_eql_slice_nil w _ _ a n c n' c' Tryz.underlying53
  obtain ⟨i0, hi, hz0, hz1, hz2⟩ := info_parts Tryz.infoCn
  have A := hide hc
  have HL := hide (flat_length zs)
  have H1 := hide (flat_oneCell zs)
  obtain ⟨n, hn⟩ : ∃ n, n = zs.length := ⟨_, rfl⟩
  rw [← hn] at HL hl ⊢
  clear hc hn
  go_enter Tryz.func114, Tryz.ntmps114
  go_wp2_with (at_builtin; refine wpList_append_own _ rfl _ _ 53 rfl w.heap.size 74 i0 _ 2 16 Tryz.underlying53 hi hz0 hz1 hz2 rfl (by decide) _ _ _ rfl (World.ownsRow_made w #[] 0 (Nat.le_refl _) (Nat.zero_le _) (by simp)) ad n c (flat zs) rfl ?qc1 ?qc2 ?qc3 ?qc4 ?qc5 ?qc6 ?_)
  case qc1 => exact HL.out
  case qc2 =>
    intro j u hj
    exact Lib.cell?_alloc_some _ (A.out j u hj)
  case qc3 => exact H1.out
  case qc4 => unfold maxLen; omega
  case qc5 => omega
  case qc6 => simp
  intro v' w1 hown hgrow hnil
  go_wp2
  go_ret
  refine ⟨v', rfl, by simpa using hown, ?_⟩
  exact ((Below.refl _ w).alloc (Nat.le_refl _) _).grown hgrow (by simp) (by intro k hk; simp [Value.ownBlock] at hk; omega)
theorem cnClone_none (n c : Nat) (w : World) :
    Calls Tryz.prog 114 #[.slice none n c] w fun e w' => e = .returned (.slice none 0 0) ∧ w = w' := by
  have q22 : ∀ (w : World) (a : Option Addr) (n c n' c' : Nat), (binOp .eql 53 (.slice a n c) (.slice none n' c')).run Tryz.prog w = .ok (.bool a.isNone) w := fun w a n c n' c' => Lib.run_eql_slice_nil w _ _ a n c n' c' Tryz.underlying53
  go_enter Tryz.func114, Tryz.ntmps114
  go_wp2
  go_ret
  exact ⟨rfl, rfl⟩
theorem cnClone (v : Value) (zs : List (Int × Int)) (w : World) (hv : PSl w v zs) :
    Calls Tryz.prog 114 #[v] w fun e w' => ∃ v', e = .returned v' ∧ w'.ownsRow w.heap.size 74 2 v' zs.length (flat zs) ∧ Below w.heap.size w w' := by
  obtain ⟨hl, ⟨rfl, a, c, rfl⟩ | ⟨b, off, c, rfl, hc, hb, hpc⟩⟩ := hv
  · cases a with
    | none => exact (cnClone_none 0 c w).mono fun e w' ⟨he, hw⟩ => ⟨_, he, by rw [← hw]; exact World.ownsRow_nil _ _ _ _, by rw [← hw]; exact Below.refl _ _⟩
    | some ad => exact cnClone_some ad c [] w (by simp) (fun j u hj => by simp [flat] at hj)
  · refine cnClone_some ⟨b, off, none⟩ c zs w hl (fun j u hj => ?_)
    have hj2 : j < zs.length * 2 := by
      rcases Nat.lt_or_ge j (zs.length * 2) with h | h
      · exact h
      · rw [List.getElem?_eq_none (by rw [flat_length]; exact h)] at hj; cases hj
    have hf := flat_get zs (j / 2) (by omega)
    have hp := hpc (j / 2) (by omega)
    rw [Addr.add_lit]
    rcases Nat.mod_two_eq_zero_or_one j with h | h
    · have e : j = j / 2 * 2 := by omega
      rw [e] at hj ⊢
      rw [← hj, hf.1]; exact hp.1
    · have e : j = j / 2 * 2 + 1 := by omega
      rw [e] at hj ⊢
      rw [← hj, hf.2, ← Nat.add_assoc]; exact hp.2
theorem qAll (b : Nat) (v : Value) (zs : List (Int × Int)) (w : World) (h : QAt 110 w b v zs) :
    Calls Tryz.prog 95 #[.pointer (some ⟨b, 0, none⟩)] w fun e w' => ∃ v', e = .returned v' ∧ PSl w' v' zs ∧ Below w.heap.size w w' := by
  have c0 := h.1.cell (i := 0) rfl
  have CL := hide (cnClone v zs w h.2.1.psl)
  have hl := h.2.1.1
  clear h
  go_enter Tryz.func95, Tryz.ntmps95
  go_wp2_with fail
  refine CL.out.mono ?_
  rintro e w1 ⟨v', rfl, hown, hb⟩
  have HP := hide (own_psl hown (by omega))
  clear hown
  go_wp2
  go_ret
  exact ⟨v', rfl, HP.out, hb⟩
end Go.Proofs.YtlnghfmcofmkjaaGreatDoor

namespace Go.Proofs.YtlnghfmcofmkjaaGreatDoor
open Go.RowKit

theorem news_get {zs : List (Int × Int)} {i k : Nat} (hl : zs.length = i + k + 1) : ∀ j, j < k → (flat (zs.drop (i + 1)))[j * 2]? = some (.int .i64 (zs.getD (i + 1 + j) (0, 0)).1) ∧ (flat (zs.drop (i + 1)))[j * 2 + 1]? = some (.int .i64 (zs.getD (i + 1 + j) (0, 0)).2) := by
  intro j hj
  have h := flat_get (zs.drop (i + 1)) j (by rw [List.length_drop]; omega)
  have e : (zs.drop (i + 1)).getD j (0, 0) = zs.getD (i + 1 + j) (0, 0) := by simp [List.getD, List.getElem?_drop]
  rwa [e] at h
/-- what is left of the row when element i is out -/
theorem del_row {w : World} {g off cap i k : Nat} {zs : List (Int × Int)} {vs : List Value} (hl : zs.length = i + k + 1) (h0 : zs.length ≤ 900) (hcap : i + k + 1 ≤ cap) (hm : cap ≤ maxLen) (hg : g < w.heap.size) (hp : PC w g off zs)
    (hs : ∀ t, t < cap * 2 → (w.cell? ⟨g, off + t, none⟩).isSome = true ∧ w.frozen? ⟨g, off + t, none⟩ = false) (hv : vs.length = 2) :
    QRow ((w.setCells g (off + i * 2) (flat (zs.drop (i + 1)))).setCells g (off + (i + k) * 2) vs) (.slice (some ⟨g, off, none⟩) (i + k) cap) (zs.eraseIdx i) := by
  have hnl : (flat (zs.drop (i + 1))).length = k * 2 := by rw [flat_length, List.length_drop, hl]; omega
  have hel : (zs.eraseIdx i).length = i + k := by rw [List.length_eraseIdx, if_pos (by omega), hl]; omega
  obtain ⟨W1, hW1⟩ : ∃ W1, W1 = w.setCells g (off + i * 2) (flat (zs.drop (i + 1))) := ⟨_, rfl⟩
  have c1 : ∀ p, p < i * 2 → W1.cell? ⟨g, off + p, none⟩ = w.cell? ⟨g, off + p, none⟩ := fun p hp => by rw [hW1]; exact World.cell?_setCells_out g _ _ w ⟨g, off + p, none⟩ (fun _ _ => .inl (by show off + p < off + i * 2; omega))
  have c2 : ∀ p, p < k * 2 → W1.cell? ⟨g, off + i * 2 + p, none⟩ = (flat (zs.drop (i + 1)))[p]? := fun p hp => by
    rw [hW1, World.cell?_setCells_in g _ _ w (fun j hj => by rw [hnl] at hj; have := (hs (i * 2 + j) (by omega)).1; rwa [← Nat.add_assoc] at this) p (by rw [hnl]; exact hp)]
    exact (List.getElem?_eq_getElem _).symm
  have c3 : ∀ p, i * 2 + k * 2 ≤ p → W1.cell? ⟨g, off + p, none⟩ = w.cell? ⟨g, off + p, none⟩ := fun p hp => by rw [hW1]; exact World.cell?_setCells_out g _ _ w ⟨g, off + p, none⟩ (fun _ _ => .inr (by rw [hnl]; show off + i * 2 + k * 2 ≤ off + p; omega))
  have hf1 : ∀ a, W1.frozen? a = w.frozen? a := fun a => by rw [hW1]; exact World.frozen?_setCells _ _ _ _ _
  have hsz : ∀ (us : List Value) (o : Nat) (W : World), (W.setCells g o us).heap.size = W.heap.size := by
    intro us
    induction us with
    | nil => intro o W; rfl
    | cons u us ih => intro o W; rw [World.setCells, ih]; simp
  have d1 : ∀ p, p < (i + k) * 2 → (W1.setCells g (off + (i + k) * 2) vs).cell? ⟨g, off + p, none⟩ = W1.cell? ⟨g, off + p, none⟩ := fun p hp => World.cell?_setCells_out g _ _ W1 ⟨g, off + p, none⟩ (fun _ _ => .inl (by show off + p < off + (i + k) * 2; omega))
  have hsome : ∀ t, t < cap * 2 → (W1.cell? ⟨g, off + t, none⟩).isSome = true := by
    intro t ht
    by_cases h1 : t < i * 2
    · rw [c1 t h1]; exact (hs t ht).1
    · by_cases h2 : t < i * 2 + k * 2
      · have := c2 (t - i * 2) (by omega)
        rw [show off + i * 2 + (t - i * 2) = off + t by omega] at this
        rw [this, List.getElem?_eq_getElem (by rw [hnl]; omega)]; rfl
      · rw [c3 t (by omega)]; exact (hs t ht).1
  rw [← hW1]
  refine ⟨by rw [hel]; omega, .inr ⟨g, off, cap, by rw [hel], by rw [hel]; omega, hm, by rw [hsz, hW1, hsz]; exact hg, fun j hj => ?_, fun t ht => ?_⟩⟩
  · rw [hel] at hj
    rw [d1 (j * 2) (by omega), Nat.add_assoc, d1 (j * 2 + 1) (by omega)]
    by_cases hji : j < i
    · have e : (zs.eraseIdx i).getD j (0, 0) = zs.getD j (0, 0) := by simp [List.getD, List.getElem?_eraseIdx, hji]
      rw [c1 (j * 2) (by omega), c1 (j * 2 + 1) (by omega), e, ← Nat.add_assoc]
      exact hp j (by omega)
    · have e : (zs.eraseIdx i).getD j (0, 0) = zs.getD (i + 1 + (j - i)) (0, 0) := by
        simp only [List.getD, List.getElem?_eraseIdx, if_neg hji]
        rw [show i + 1 + (j - i) = j + 1 by omega]
      have q := news_get hl (j - i) (by omega)
      have a1 := c2 ((j - i) * 2) (by omega)
      have a2 := c2 ((j - i) * 2 + 1) (by omega)
      rw [show off + i * 2 + (j - i) * 2 = off + j * 2 by omega] at a1
      rw [show off + i * 2 + ((j - i) * 2 + 1) = off + (j * 2 + 1) by omega] at a2
      rw [a1, a2, e]
      exact q
  · refine ⟨?_, by rw [World.frozen?_setCells, hf1]; exact (hs t ht).2⟩
    by_cases h1 : t < (i + k) * 2
    · rw [d1 t h1]; exact hsome t ht
    · by_cases h2 : t < (i + k) * 2 + 2
      · have := World.cell?_setCells_in g vs (off + (i + k) * 2) W1 (fun j hj => by
          rw [Nat.add_assoc]; exact hsome _ (by omega)) (t - (i + k) * 2) (by omega)
        rw [show off + (i + k) * 2 + (t - (i + k) * 2) = off + t by omega] at this
        rw [this]; rfl
      · rw [World.cell?_setCells_out g vs _ W1 ⟨g, off + t, none⟩ (fun _ _ => .inr (by rw [hv]; show off + (i + k) * 2 + 2 ≤ off + t; omega))]
        exact hsome t ht
theorem setCells_block (g : Nat) : ∀ (vs : List Value) (o : Nat) (w : World) (k : Nat), k ≠ g → (w.setCells g o vs).heap[k]? = w.heap[k]?
  | [], _, _, _, _ => rfl
  | v :: r, o, w, k, h => by rw [World.setCells, setCells_block g r _ _ k h, Below.heap_setCell _ _ _ _ h]
theorem setCells_kept {S : List Nat} {a : World} {g : Nat} (hg : g ∈ S) : ∀ (vs : List Value) (o : Nat) (w : World), Kept S a w → Kept S a (w.setCells g o vs)
  | [], _, _, h => h
  | v :: r, o, _, h => setCells_kept hg r _ _ (h.setCell (p := ⟨g, o, none⟩) (Or.inl hg) v)
end Go.Proofs.YtlnghfmcofmkjaaGreatDoor

namespace Go.Proofs.YtlnghfmcofmkjaaGreatDoor
open Go.RowKit

theorem rConn (s n : Int) (w : World) : Calls Tryz.prog 78 #[.agg #[.int .i64 s, .int .i64 n]] w fun e w' => e = .returned (.bool (connB s n)) ∧ Below w.heap.size w w' := by
  have hc : s < 0 ∨ (0 ≤ s ∧ 16 ≤ s) ∨ (0 ≤ s ∧ s < 16 ∧ n < 0) ∨ (0 ≤ s ∧ s < 16 ∧ 0 ≤ n ∧ 4096 ≤ n) ∨ (0 ≤ s ∧ s < 16 ∧ 0 ≤ n ∧ n < 4096) := by omega
  rcases hc with h | ⟨h1, h2⟩ | ⟨h1, h2, h3⟩ | ⟨h1, h2, h3, h4⟩ | ⟨h1, h2, h3, h4⟩
  all_goals
    go_enter Tryz.func78, Tryz.ntmps78
    go_wp2
    go_ret
    exact ⟨retB (by first | exact (decide_eq_true (by omega)).symm | exact (decide_eq_false (by omega)).symm | (simp only [connB, decide_eq_decide]; omega)), by go_grown⟩
theorem rConn_eq {s n : Int} {v : Bool} (h : connB s n = v) (w : World) : Calls Tryz.prog 78 #[.agg #[.int .i64 s, .int .i64 n]] w fun e w' => e = .returned (.bool v) ∧ Below w.heap.size w w' := by
  have g := rConn s n w
  rwa [h] at g

end Go.Proofs.YtlnghfmcofmkjaaGreatDoor
