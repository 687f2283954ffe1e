/- queue: New, Offer by contracts. -/
import Derived.Test.YtkkmlolnikomdaaGreatDoorServerPlaysProofM4
import Derived.Deep.RegionHeld3
import Derived.Deep.AppendLies
import Derived.Deep.RegionLaw
namespace Go.Proofs.YtkkmlolnikomdaaGreatDoor
open Go.RowKit

/-- the block b holds a struct of one slice v, which holds zs -/
def QAt (T : TypeId) (w : World) (b : Nat) (v : Value) (zs : List (Int × Int)) : Prop := ObjAt w b T [v] ∧ QRow w v zs ∧ v.ownBlock ≠ some b
theorem QAt.below {T : TypeId} {w w' : World} {b : Nat} {v : Value} {zs : List (Int × Int)} (h : QAt T w b v zs) (hb : Below w.heap.size w w') : QAt T w' b v zs := ⟨h.1.below hb, h.2.1.below hb, h.2.2⟩
theorem QAt.kept {T : TypeId} {S : List Nat} {w w' : World} {b : Nat} {v : Value} {zs : List (Int × Int)} (h : QAt T w b v zs) (hk : Kept S w w') (h1 : b ∉ S) (h2 : ∀ g, v.ownBlock = some g → g ∉ S) : QAt T w' b v zs := ⟨hk.obj h.1 h1, h.2.1.kept hk h2, h.2.2⟩
theorem qrow_form {w : World} {v : Value} {zs : List (Int × Int)} (h : QRow w v zs) : ∃ a c, v = .slice a zs.length c := by
  rcases h.2 with ⟨rfl, rfl⟩ | ⟨b, off, c, rfl, _⟩
  · exact ⟨none, 0, rfl⟩
  · exact ⟨_, c, rfl⟩
/-- the fault of one that is offered -/
def offE (zs : List (Int × Int)) (s n : Int) : Int := if connB s n = false then 1 else if zs.any (cnP s n) = true then 7 else if 8 ≤ zs.length then 4 else 0
/-- what may turn: the queue's block, and the block of its row -/
def qS (b : Nat) (v : Value) : List Nat := b :: v.ownBlock.toList
theorem mem_qS {b k : Nat} {v : Value} : k ∈ qS b v ↔ k = b ∨ v.ownBlock = some k := by
  unfold qS
  cases v.ownBlock with
  | none => simp
  | some g => simp [eq_comm]
/-- the row of v' is that of v, or is new -/
def rowOf (w : World) (v v' : Value) : Prop := v'.ownBlock = v.ownBlock ∨ ∃ g, v'.ownBlock = some g ∧ w.heap.size ≤ g
theorem qNew (w : World) : Calls Tryz.prog 22 #[] w fun e w' => e = .returned (.pointer (some ⟨w.heap.size, 0, none⟩)) ∧ QAt 100 w' w.heap.size (.slice none 0 0) [] ∧ Below w.heap.size w w' := by
  go_enter Tryz.func22, Tryz.ntmps22
  go_wp2
  go_ret
  exact ⟨rfl, ⟨ObjAt.new _ _ _, QRow.nil _, by simp [Value.ownBlock]⟩, (Below.refl _ _).alloc (Nat.le_refl _) _⟩
set_option maxHeartbeats 4000000 in
theorem qOffer_bad {c s n : Int} {zs : List (Int × Int)} (hc : offE zs s n = c) (h0 : c ≠ 0) (h8 : zs.length ≤ 8) (b : Nat) (v : Value) (w : World) (h : QAt 100 w b v zs) :
    Calls Tryz.prog 60 #[.pointer (some ⟨b, 0, none⟩), .agg #[.int .i64 s, .int .i64 n]] w fun e w' => e = .returned (errV c) ∧ Below w.heap.size w w' := by
  unfold offE at hc
  cases hv : connB s n
  · rw [if_pos hv] at hc
    subst hc
    have CR := hide (fun W => connRight_eq hv W)
    clear hv h0 h
    go_enter Tryz.func60, Tryz.ntmps60
    go_wp2_with fail
    refine (CR.out _).mono ?_
    rintro e w1 ⟨rfl, hb1⟩
    go_wp2
    go_ret
    exact ⟨rfl, bel_a1 hb1⟩
  · rw [if_neg (by rw [hv]; simp)] at hc
    have CR := hide (fun W => connRight_eq hv W)
    obtain ⟨q, hq⟩ : ∃ q, zs.any (cnP s n) = q := ⟨_, rfl⟩
    obtain ⟨a, cp, rfl⟩ := qrow_form h.2.1
    have HQ := hide h
    have CC : Hid (∀ W, Below w.heap.size w W → Calls Tryz.prog 76 #[.slice a zs.length cp, .agg #[.int .i64 s, .int .i64 n]] W fun e w' => e = .returned (.bool q) ∧ Below W.heap.size W w') := by
      intro W hW
      have := cnContains s n _ zs W ((HQ.out.below hW).2.1.psl)
      rwa [hq] at this
    rw [hq] at hc
    clear hv h hq
    go_enter Tryz.func60, Tryz.ntmps60
    go_wp2_with fail
    refine (CR.out _).mono ?_
    rintro e w1 ⟨rfl, hb1⟩
    have hB1 : Below w.heap.size w w1 := bel_a1 hb1
    have HQ1 := hide (HQ.out.below hB1)
    have hX1 : ObjAt w1 w.heap.size 55 [.int .i64 s, .int .i64 n] := (ObjAt.new _ _ _).below hb1
    have c0 := HQ1.out.1.cell (i := 0) rfl
    have c1 := hX1.cell (i := 0) rfl
    have c2 := hX1.cell (i := 1) rfl
    have y0 := HQ1.out.1.lt
    have y1 := hX1.lt
    have HS : Hid (∀ w' : World, Below w1.heap.size w1 w' → w'.cell? ⟨b, 0, none⟩ = some (.slice a zs.length cp) ∧ w'.cell? ⟨w.heap.size, 0, none⟩ = some (.int .i64 s) ∧ w'.cell? ⟨w.heap.size, 1, none⟩ = some (.int .i64 n)) :=
      fun w' hB => ⟨(hB.cell (p := ⟨b, 0, none⟩) y0).trans c0, (hB.cell (p := ⟨w.heap.size, 0, none⟩) y1).trans c1, (hB.cell (p := ⟨w.heap.size, 1, none⟩) y1).trans c2⟩
    have hrr := Below.refl w1.heap.size w1
    clear hb1 hX1
    go_wp2_with fail
    go_region_held3 (fun w' => w'.cell? ⟨b, 0, none⟩ = some (.slice a zs.length cp) ∧ w'.cell? ⟨w.heap.size, 0, none⟩ = some (.int .i64 s) ∧ w'.cell? ⟨w.heap.size, 1, none⟩ = some (.int .i64 n)) (first | exact HS.out _ (by assumption) | (refine HS.out _ ?_; go_grown) | go_keep)
      (first | (go_at_call 76; refine (CC.out _ (hB1.trans (Below.mono (by go_grown : Below w1.heap.size w1 _) hB1.size))).mono ?_; rintro e5 w2 ⟨rfl, hb2⟩; have hw2 : Below w1.heap.size w1 w2 := Below.trans (by go_grown) (Below.mono hb2 (by first | omega | (simp; done) | (simp; omega))); have hs2 := hb2.size; (try simp at hs2); obtain ⟨c5, d5⟩ := bcell hb2))
    have hB2 : Below w.heap.size w w2 := hB1.trans (hw2.mono hB1.size)
    obtain ⟨k0, k1, k2⟩ := HS.out _ hw2
    clear hb2 c5 d5 hs2 hrr c0 c1 c2 hw2 HS HQ1
    cases q
    · rw [if_neg (by simp)] at hc
      by_cases h8' : 8 ≤ zs.length
      · rw [if_pos h8'] at hc
        subst hc
        have t8 : ((zs.length : Int) == 8) = true := by simp; omega
        clear h0
        go_wp2
        go_ret
        exact ⟨rfl, hB2⟩
      · rw [if_neg h8'] at hc; exact absurd hc.symm h0
    · rw [if_pos rfl] at hc
      subst hc
      clear h0
      go_wp2
      go_ret
      exact ⟨rfl, hB2⟩
/-- what holds behind the append of one to a queue's row, in a world W that has grown of w2 -/
theorem offer_fin {T : TypeId} {w w2 : World} {b : Nat} {v : Value} {zs ns : List (Int × Int)} {s n : Int} (h : QAt T w b v zs) (hB2 : Below w.heap.size w w2) (h2 : QAt T w2 b v zs) (yx : w.heap.size < w2.heap.size)
    (k1 : w2.cell? ⟨w.heap.size, 0, none⟩ = some (.int .i64 s)) (k2 : w2.cell? ⟨w.heap.size, 1, none⟩ = some (.int .i64 n)) (hns : zs ++ [(s, n)] = ns) :
    ∀ (W w3 : World) (v3 : Value), Below w2.heap.size w2 W → QRow w3 v3 (zs ++ [(s, n)]) → W.grownBy w3 v.ownBlock → (v3.ownBlock = v.ownBlock ∨ ∃ g, v3.ownBlock = some g ∧ W.heap.size ≤ g) →
      w3.cell? ⟨b, 0, none⟩ = some v ∧ w3.cell? ⟨w.heap.size, 0, none⟩ = some (.int .i64 s) ∧ w3.cell? ⟨w.heap.size, 1, none⟩ = some (.int .i64 n) ∧ w3.frozen? ⟨b, 0, none⟩ = false ∧
        ObjAt w3 b T [v] ∧ QRow w3 v3 ns ∧ (rowOf w v v3 ∧ v3.ownBlock ≠ some b) ∧ Kept (qS b v) w w3 := by
  intro W w3 v3 hW hq hg hv
  have hz1 := hB2.size
  have hz2 := hW.size
  have ho : ObjAt w3 b T [v] := grown_obj hg (h2.1.below hW) (fun k hk e => h2.2.2 (by rw [hk, e]))
  have hne : some w.heap.size ≠ v.ownBlock := fun e => by have := h.2.1.lt _ e.symm; omega
  have hb := h.1.lt
  refine ⟨ho.cell (i := 0) rfl, ?_, ?_, ho.free 0, ho, by rw [← hns]; exact hq, ⟨?_, ?_⟩, ?_⟩
  · exact (hg.cell_far ⟨w.heap.size, 0, none⟩ (show w.heap.size < W.heap.size by omega) hne).trans ((hW.cell (p := ⟨w.heap.size, 0, none⟩) yx).trans k1)
  · exact (hg.cell_far ⟨w.heap.size, 1, none⟩ (show w.heap.size < W.heap.size by omega) hne).trans ((hW.cell (p := ⟨w.heap.size, 1, none⟩) yx).trans k2)
  · rcases hv with e | ⟨g, e, hge⟩
    · exact .inl e
    · exact .inr ⟨g, e, by omega⟩
  · rcases hv with e | ⟨g, e, hge⟩
    · rw [e]; exact h.2.2
    · rw [e]
      intro e2
      have := Option.some.inj e2
      omega
  · exact Kept.grown (Kept.of_below (hB2.trans (hW.mono hB2.size)) _) hg (fun k hk => Or.inl (mem_qS.2 (Or.inr hk)))
set_option maxHeartbeats 4000000 in
theorem qOffer_ok {s n : Int} {zs ns : List (Int × Int)} (hns : zs ++ [(s, n)] = ns) (hc : offE zs s n = 0) (b : Nat) (v : Value) (w : World) (h : QAt 100 w b v zs) :
    Calls Tryz.prog 60 #[.pointer (some ⟨b, 0, none⟩), .agg #[.int .i64 s, .int .i64 n]] w fun e w' => e = .returned .nilIface ∧ ∃ v', QAt 100 w' b v' ns ∧ rowOf w v v' ∧ Kept (qS b v) w w' := by
  unfold offE at hc
  cases hv : connB s n
  · rw [if_pos hv] at hc; exact absurd hc (by decide)
  · rw [if_neg (by rw [hv]; simp)] at hc
    cases hq : zs.any (cnP s n)
    · rw [if_neg (by rw [hq]; simp)] at hc
      by_cases h8' : 8 ≤ zs.length
      · rw [if_pos h8'] at hc; exact absurd hc (by decide)
      · have CR := hide (fun W => connRight_eq hv W)
        obtain ⟨a, cp, rfl⟩ := qrow_form h.2.1
        have HQ := hide h
        have CC : Hid (∀ W, Below w.heap.size w W → Calls Tryz.prog 76 #[.slice a zs.length cp, .agg #[.int .i64 s, .int .i64 n]] W fun e w' => e = .returned (.bool false) ∧ Below W.heap.size W w') := by
          intro W hW
          have := cnContains s n _ zs W ((HQ.out.below hW).2.1.psl)
          rwa [hq] at this
        have HNS := hide hns
        have t8 : ((zs.length : Int) == 8) = false := by simp; omega
        have yb := h.1.lt
        clear hv h hq hc hns
        go_enter Tryz.func60, Tryz.ntmps60
        go_wp2_with fail
        refine (CR.out _).mono ?_
        rintro e w1 ⟨rfl, hb1⟩
        have hB1 : Below w.heap.size w w1 := bel_a1 hb1
        have HQ1 := hide (HQ.out.below hB1)
        have hX1 : ObjAt w1 w.heap.size 55 [.int .i64 s, .int .i64 n] := (ObjAt.new _ _ _).below hb1
        have c0 := HQ1.out.1.cell (i := 0) rfl
        have c1 := hX1.cell (i := 0) rfl
        have c2 := hX1.cell (i := 1) rfl
        have y0 := HQ1.out.1.lt
        have y1 := hX1.lt
        have HS : Hid (∀ w' : World, Below w1.heap.size w1 w' → w'.cell? ⟨b, 0, none⟩ = some (.slice a zs.length cp) ∧ w'.cell? ⟨w.heap.size, 0, none⟩ = some (.int .i64 s) ∧ w'.cell? ⟨w.heap.size, 1, none⟩ = some (.int .i64 n)) :=
          fun w' hB => ⟨(hB.cell (p := ⟨b, 0, none⟩) y0).trans c0, (hB.cell (p := ⟨w.heap.size, 0, none⟩) y1).trans c1, (hB.cell (p := ⟨w.heap.size, 1, none⟩) y1).trans c2⟩
        have hrr := Below.refl w1.heap.size w1
        clear hb1 hX1
        go_wp2_with fail
        go_region_held3 (fun w' => w'.cell? ⟨b, 0, none⟩ = some (.slice a zs.length cp) ∧ w'.cell? ⟨w.heap.size, 0, none⟩ = some (.int .i64 s) ∧ w'.cell? ⟨w.heap.size, 1, none⟩ = some (.int .i64 n)) (first | exact HS.out _ (by assumption) | (refine HS.out _ ?_; go_grown) | go_keep)
          (first | (go_at_call 76; refine (CC.out _ (hB1.trans (Below.mono (by go_grown : Below w1.heap.size w1 _) hB1.size))).mono ?_; rintro e5 w2 ⟨rfl, hb2⟩; have hw2 : Below w1.heap.size w1 w2 := Below.trans (by go_grown) (Below.mono hb2 (by first | omega | (simp; done) | (simp; omega))); have hs2 := hb2.size; (try simp at hs2); obtain ⟨c5, d5⟩ := bcell hb2))
        have hB2 : Below w.heap.size w w2 := hB1.trans (hw2.mono hB1.size)
        have HQ2 := hide (HQ1.out.below hw2)
        obtain ⟨k0, k1, k2⟩ := HS.out _ hw2
        have yy : b < w2.heap.size := HQ2.out.1.lt
        have yx : w.heap.size < w2.heap.size := by have := hw2.size; omega
        have HS2 : Hid (∀ w' : World, Below w2.heap.size w2 w' → w'.cell? ⟨b, 0, none⟩ = some (.slice a zs.length cp) ∧ w'.cell? ⟨w.heap.size, 0, none⟩ = some (.int .i64 s) ∧ w'.cell? ⟨w.heap.size, 1, none⟩ = some (.int .i64 n)) :=
          fun w' hB => ⟨(hB.cell (p := ⟨b, 0, none⟩) yy).trans k0, (hB.cell (p := ⟨w.heap.size, 0, none⟩) yx).trans k1, (hB.cell (p := ⟨w.heap.size, 1, none⟩) yx).trans k2⟩
        have fb := HQ2.out.1.free 0
        have QF := hide (offer_fin (T := 100) (s := s) (n := n) HQ.out hB2 HQ2.out yx k1 k2 HNS.out)
        clear hb2 c5 d5 hs2 hrr c0 c1 c2 hw2 HS HQ1
        have hrr := Below.refl w2.heap.size w2
        go_wp2_with fail
        go_region_law
          ((refine step_append_q _ rfl (.tmp 30) (.tmp 32) rfl (by simp [Act.eval]) (QRow.below HQ2.out.2.1 (by go_grown)) (by omega) ⟨w2.heap.size, 0, none⟩ 1 (s, n) (by simp [Act.eval]) (by simp [Addr.add]) (by simp [Addr.add]) ?_; intro v3 w3 hq3 hg3 hv3
            obtain ⟨a3, c3, hf3⟩ := qrow_form hq3
            obtain ⟨m3, hm3⟩ : ∃ m, m = (zs ++ [(s, n)]).length := ⟨_, rfl⟩
            rw [← hm3] at hf3
            clear hm3
            subst hf3
            have HT3 := QF.out _ w3 _ (by go_grown) hq3 hg3 hv3
            have HS3 : w3.cell? ⟨b, 0, none⟩ = some (.slice a zs.length cp) ∧ w3.cell? ⟨w.heap.size, 0, none⟩ = some (.int .i64 s) ∧ w3.cell? ⟨w.heap.size, 1, none⟩ = some (.int .i64 n) := ⟨HT3.1, HT3.2.1, HT3.2.2.1⟩
            have fb3 : w3.frozen? ⟨b, 0, none⟩ = false := HT3.2.2.2.1
            have HZ3 := hide HT3.2.2.2.2
            clear hq3 hg3 hv3 HT3))
        all_goals go_wp2
        all_goals go_ret
        all_goals obtain ⟨z1, z2, z3, z4⟩ := HZ3.out
        all_goals exact ⟨rfl, _, ⟨z1.set 0 _, z2.setOther (fun g hg e => z3.2 (by rw [hg, e])) _, z3.2⟩, z3.1, z4.setCell (Or.inl (mem_qS.2 (Or.inl rfl))) _⟩
    · rw [if_pos hq] at hc; exact absurd hc (by decide)
end Go.Proofs.YtkkmlolnikomdaaGreatDoor
