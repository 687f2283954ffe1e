/- queue: Drop by contract. -/
import Derived.Test.YtfehnfbmlomccaaDoorQDel
namespace Go.Proofs.YtfehnfbmlomccaaDoor
open Go.RowKit

set_option maxHeartbeats 4000000 in
theorem qDrop_range {s n : Int} {zs : List (Int × Int)} (hv : connB s n = false) (b : Nat) (v : Value) (w : World) (h : QAt 74 w b v zs) :
    Calls Tryd.prog 15 #[.pointer (some ⟨b, 0, none⟩), .agg #[.int .i64 s, .int .i64 n]] w fun e w' => e = .returned (.iface 75 (.int .i64 1)) ∧ Below w.heap.size w w' := by
  obtain ⟨a, cp, rfl⟩ := qrow_form h.2.1
  obtain ⟨j, hj⟩ : ∃ j, idxP (cnP s n) zs = j := ⟨_, rfl⟩
  have HQ := hide h
  have CC : Hid (∀ W, Below w.heap.size w W → Calls Tryd.prog 45 #[.slice a zs.length cp, .agg #[.int .i64 s, .int .i64 n]] W fun e w' => e = .returned (.int .i64 (j)) ∧ Below W.heap.size W w') := by
    intro W hW
    have := cnIndex s n _ zs W ((HQ.out.below hW).2.1.psl)
    rwa [hj] at this
  have CR := hide (fun W => connRight_eq hv W)
  have c0 := h.1.cell (i := 0) rfl
  have y0 := h.1.lt
  have HS : Hid (∀ w' : World, Below w.heap.size w w' → w'.cell? ⟨b, 0, none⟩ = some (.slice a zs.length cp)) :=
    fun w' hB => (hB.cell (p := ⟨b, 0, none⟩) y0).trans c0
  have HX : Hid (∀ w' : World, Below (w.heap.size + 1) (w.alloc (.cells #[.int .i64 s, .int .i64 n] 29)) w' → w'.cell? ⟨w.heap.size, 0, none⟩ = some (.int .i64 s) ∧ w'.cell? ⟨w.heap.size, 1, none⟩ = some (.int .i64 n)) := by
    intro w' hB
    have o : ObjAt w' w.heap.size 29 [.int .i64 s, .int .i64 n] := (hB.block w.heap.size (by omega)).trans (ObjAt.new w 29 [.int .i64 s, .int .i64 n])
    exact ⟨o.cell (i := 0) rfl, o.cell (i := 1) rfl⟩
  clear h hv hj
  go_enter Tryd.func15, Tryd.ntmps15
  go_wp2_with fail
  have hrr : Below (w.heap.size + 1) (w.alloc (.cells #[.int .i64 s, .int .i64 n] 29)) (w.alloc (.cells #[.int .i64 s, .int .i64 n] 29)) := Below.refl _ _
  have hrs : Below w.heap.size w (w.alloc (.cells #[.int .i64 s, .int .i64 n] 29)) := (Below.refl _ _).alloc (Nat.le_refl _) _
  go_region_held3 (fun w' => w'.cell? ⟨b, 0, none⟩ = some (.slice a zs.length cp) ∧ w'.cell? ⟨w.heap.size, 0, none⟩ = some (.int .i64 s) ∧ w'.cell? ⟨w.heap.size, 1, none⟩ = some (.int .i64 n)) (first | exact ⟨HS.out _ (by assumption), HX.out _ (by assumption)⟩ | (refine ⟨HS.out _ ?_, HX.out _ ?_⟩ <;> go_grown) | go_keep)
    (first | (go_at_call 45; refine (CC.out _ (by go_grown)).mono ?_; rintro e5 w2 ⟨rfl, hb2⟩; have hw2 : Below w.heap.size w w2 := Below.trans (by go_grown) (Below.mono hb2 (by first | omega | (simp; done) | (simp; omega))); have hx2 : Below (w.heap.size + 1) (w.alloc (.cells #[.int .i64 s, .int .i64 n] 29)) w2 := Below.trans (by go_grown) (Below.mono hb2 (by first | omega | (simp; done) | (simp; omega))); have hs2 := hb2.size; (try simp at hs2); obtain ⟨c5, d5⟩ := bcell hb2))
  have k0 := HS.out _ hw2
  obtain ⟨k1, k2⟩ := HX.out _ hx2
  clear hb2 c5 d5 hs2 hrr hrs c0 hx2
  go_wp2_with fail
  refine (CR.out _).mono ?_
  rintro e w3 ⟨rfl, hb3⟩
  have hB3 : Below w.heap.size w w3 := hw2.trans (hb3.mono hw2.size)
  have HQ3 := hide (HQ.out.below hB3)
  clear hb3 k0 k1 k2 CC CR HS HX
  go_wp2
  go_ret
  exact ⟨rfl, hB3⟩
set_option maxHeartbeats 4000000 in
theorem qDrop_none {s n : Int} {zs : List (Int × Int)} (hv : connB s n = true) (hj : idxP (cnP s n) zs = -1) (b : Nat) (v : Value) (w : World) (h : QAt 74 w b v zs) :
    Calls Tryd.prog 15 #[.pointer (some ⟨b, 0, none⟩), .agg #[.int .i64 s, .int .i64 n]] w fun e w' => e = .returned (.iface 75 (.int .i64 5)) ∧ Below w.heap.size w w' := by
  obtain ⟨a, cp, rfl⟩ := qrow_form h.2.1
  have HQ := hide h
  have CC : Hid (∀ W, Below w.heap.size w W → Calls Tryd.prog 45 #[.slice a zs.length cp, .agg #[.int .i64 s, .int .i64 n]] W fun e w' => e = .returned (.int .i64 (-1)) ∧ Below W.heap.size W w') := by
    intro W hW
    have := cnIndex s n _ zs W ((HQ.out.below hW).2.1.psl)
    rwa [hj] at this
  have CR := hide (fun W => connRight_eq hv W)
  have c0 := h.1.cell (i := 0) rfl
  have y0 := h.1.lt
  have HS : Hid (∀ w' : World, Below w.heap.size w w' → w'.cell? ⟨b, 0, none⟩ = some (.slice a zs.length cp)) :=
    fun w' hB => (hB.cell (p := ⟨b, 0, none⟩) y0).trans c0
  have HX : Hid (∀ w' : World, Below (w.heap.size + 1) (w.alloc (.cells #[.int .i64 s, .int .i64 n] 29)) w' → w'.cell? ⟨w.heap.size, 0, none⟩ = some (.int .i64 s) ∧ w'.cell? ⟨w.heap.size, 1, none⟩ = some (.int .i64 n)) := by
    intro w' hB
    have o : ObjAt w' w.heap.size 29 [.int .i64 s, .int .i64 n] := (hB.block w.heap.size (by omega)).trans (ObjAt.new w 29 [.int .i64 s, .int .i64 n])
    exact ⟨o.cell (i := 0) rfl, o.cell (i := 1) rfl⟩
  clear h hv hj
  go_enter Tryd.func15, Tryd.ntmps15
  go_wp2_with fail
  have hrr : Below (w.heap.size + 1) (w.alloc (.cells #[.int .i64 s, .int .i64 n] 29)) (w.alloc (.cells #[.int .i64 s, .int .i64 n] 29)) := Below.refl _ _
  have hrs : Below w.heap.size w (w.alloc (.cells #[.int .i64 s, .int .i64 n] 29)) := (Below.refl _ _).alloc (Nat.le_refl _) _
  go_region_held3 (fun w' => w'.cell? ⟨b, 0, none⟩ = some (.slice a zs.length cp) ∧ w'.cell? ⟨w.heap.size, 0, none⟩ = some (.int .i64 s) ∧ w'.cell? ⟨w.heap.size, 1, none⟩ = some (.int .i64 n)) (first | exact ⟨HS.out _ (by assumption), HX.out _ (by assumption)⟩ | (refine ⟨HS.out _ ?_, HX.out _ ?_⟩ <;> go_grown) | go_keep)
    (first | (go_at_call 45; refine (CC.out _ (by go_grown)).mono ?_; rintro e5 w2 ⟨rfl, hb2⟩; have hw2 : Below w.heap.size w w2 := Below.trans (by go_grown) (Below.mono hb2 (by first | omega | (simp; done) | (simp; omega))); have hx2 : Below (w.heap.size + 1) (w.alloc (.cells #[.int .i64 s, .int .i64 n] 29)) w2 := Below.trans (by go_grown) (Below.mono hb2 (by first | omega | (simp; done) | (simp; omega))); have hs2 := hb2.size; (try simp at hs2); obtain ⟨c5, d5⟩ := bcell hb2))
  have k0 := HS.out _ hw2
  obtain ⟨k1, k2⟩ := HX.out _ hx2
  clear hb2 c5 d5 hs2 hrr hrs c0 hx2
  go_wp2_with fail
  refine (CR.out _).mono ?_
  rintro e w3 ⟨rfl, hb3⟩
  have hB3 : Below w.heap.size w w3 := hw2.trans (hb3.mono hw2.size)
  have HQ3 := hide (HQ.out.below hB3)
  clear hb3 k0 k1 k2 CC CR HS HX
  go_wp2
  go_ret
  exact ⟨rfl, hB3⟩
set_option maxHeartbeats 4000000 in
theorem qDrop_ok {s n : Int} {zs ns : List (Int × Int)} {i : Nat} (hv : connB s n = true) (hi : i < zs.length) (hj : idxP (cnP s n) zs = i) (hns : zs.eraseIdx i = ns) (b : Nat) (v : Value) (w : World) (h : QAt 74 w b v zs) :
    Calls Tryd.prog 15 #[.pointer (some ⟨b, 0, none⟩), .agg #[.int .i64 s, .int .i64 n]] w fun e w' => e = .returned .nilIface ∧ ∃ v', QAt 74 w' b v' ns ∧ rowOf w v v' ∧ Kept (qS b v) w w' := by
  obtain ⟨hl9, ⟨h0, _⟩ | ⟨g, off, cap, hve, q2, q3, q4, q5, q6⟩⟩ := h.2.1
  · subst h0; simp at hi
  obtain ⟨k, hk⟩ : ∃ k, zs.length = i + k + 1 := ⟨zs.length - i - 1, by omega⟩
  rw [hk] at hve
  have hne : g ≠ b := fun e => h.2.2 (by rw [← e, hve]; rfl)
  have hcap : i + k + 1 ≤ cap := by rw [← hk]; exact q2
  have hmx := q3
  unfold maxLen at hmx
  have DL := hide (fun W (hW : Below w.heap.size w W) => cnDelete g off cap i k zs W hk hl9 hcap q3 (Nat.lt_of_lt_of_le q4 hW.size) (q5.below q4 hW) (fun t ht => ⟨by rw [hW.cell (p := ⟨g, off + t, none⟩) q4]; exact (q6 t ht).1, by rw [World.frozen?_of_block (a := ⟨g, off + t, none⟩) (hW.block g q4)]; exact (q6 t ht).2⟩))
  subst hve
  have HNS := hide hns
  have n1 : ¬ ((i : Int) < 0) := by omega
  clear q5 q6 hns q2 q3 hi hk
  have HQ := hide h
  have CC : Hid (∀ W, Below w.heap.size w W → Calls Tryd.prog 45 #[.slice (some ⟨g, off, none⟩) (i + k + 1) cap, .agg #[.int .i64 s, .int .i64 n]] W fun e w' => e = .returned (.int .i64 (i)) ∧ Below W.heap.size W w') := by
    intro W hW
    have := cnIndex s n _ zs W ((HQ.out.below hW).2.1.psl)
    rwa [hj] at this
  have CR := hide (fun W => connRight_eq hv W)
  have c0 := h.1.cell (i := 0) rfl
  have y0 := h.1.lt
  have HS : Hid (∀ w' : World, Below w.heap.size w w' → w'.cell? ⟨b, 0, none⟩ = some (.slice (some ⟨g, off, none⟩) (i + k + 1) cap)) :=
    fun w' hB => (hB.cell (p := ⟨b, 0, none⟩) y0).trans c0
  have HX : Hid (∀ w' : World, Below (w.heap.size + 1) (w.alloc (.cells #[.int .i64 s, .int .i64 n] 29)) w' → w'.cell? ⟨w.heap.size, 0, none⟩ = some (.int .i64 s) ∧ w'.cell? ⟨w.heap.size, 1, none⟩ = some (.int .i64 n)) := by
    intro w' hB
    have o : ObjAt w' w.heap.size 29 [.int .i64 s, .int .i64 n] := (hB.block w.heap.size (by omega)).trans (ObjAt.new w 29 [.int .i64 s, .int .i64 n])
    exact ⟨o.cell (i := 0) rfl, o.cell (i := 1) rfl⟩
  clear h hv hj
  go_enter Tryd.func15, Tryd.ntmps15
  go_wp2_with fail
  have hrr : Below (w.heap.size + 1) (w.alloc (.cells #[.int .i64 s, .int .i64 n] 29)) (w.alloc (.cells #[.int .i64 s, .int .i64 n] 29)) := Below.refl _ _
  have hrs : Below w.heap.size w (w.alloc (.cells #[.int .i64 s, .int .i64 n] 29)) := (Below.refl _ _).alloc (Nat.le_refl _) _
  go_region_held3 (fun w' => w'.cell? ⟨b, 0, none⟩ = some (.slice (some ⟨g, off, none⟩) (i + k + 1) cap) ∧ w'.cell? ⟨w.heap.size, 0, none⟩ = some (.int .i64 s) ∧ w'.cell? ⟨w.heap.size, 1, none⟩ = some (.int .i64 n)) (first | exact ⟨HS.out _ (by assumption), HX.out _ (by assumption)⟩ | (refine ⟨HS.out _ ?_, HX.out _ ?_⟩ <;> go_grown) | go_keep)
    (first | (go_at_call 45; refine (CC.out _ (by go_grown)).mono ?_; rintro e5 w2 ⟨rfl, hb2⟩; have hw2 : Below w.heap.size w w2 := Below.trans (by go_grown) (Below.mono hb2 (by first | omega | (simp; done) | (simp; omega))); have hx2 : Below (w.heap.size + 1) (w.alloc (.cells #[.int .i64 s, .int .i64 n] 29)) w2 := Below.trans (by go_grown) (Below.mono hb2 (by first | omega | (simp; done) | (simp; omega))); have hs2 := hb2.size; (try simp at hs2); obtain ⟨c5, d5⟩ := bcell hb2))
  have k0 := HS.out _ hw2
  obtain ⟨k1, k2⟩ := HX.out _ hx2
  clear hb2 c5 d5 hs2 hrr hrs c0 hx2
  go_wp2_with fail
  refine (CR.out _).mono ?_
  rintro e w3 ⟨rfl, hb3⟩
  have hB3 : Below w.heap.size w w3 := hw2.trans (hb3.mono hw2.size)
  have HQ3 := hide (HQ.out.below hB3)
  clear hb3 k0 k1 k2 CC CR HS HX
  have f3 := HQ3.out.1.free 0
  have k3 := HQ3.out.1.cell (i := 0) rfl
  have z3 := HQ3.out.1.lt
  go_wp2_with fail
  refine (DL.out _ hB3).mono ?_
  rintro e w4 ⟨rfl, hq4, hk4⟩
  have ho4 := hk4.obj HQ3.out.1 (by simp; exact fun e => hne e.symm)
  have k4 := ho4.cell (i := 0) rfl
  have f4 := ho4.free 0
  have HO4 := hide ho4
  have HK4 := hide hk4
  have HQ4 := hide hq4
  clear ho4 hk4 hq4 DL f3 k3
  go_wp2
  go_ret
  refine ⟨rfl, _, ⟨HO4.out.set 0 _, ?_, ?_⟩, .inl rfl, ?_⟩
  · have hq := HQ4.out
    rw [HNS.out] at hq
    exact hq.setOther (fun g' hg' e => hne ((Option.some.inj hg').trans e)) _
  · exact fun e => hne (Option.some.inj e)
  · refine Kept.setCell (p := ⟨b, 0, none⟩) (Kept.trans (Kept.of_below hB3 _) (HK4.out.mono (fun x hx => ?_))) (Or.inl (mem_qS.2 (Or.inl rfl))) _
    simp at hx
    exact mem_qS.2 (Or.inr (by rw [hx]; rfl))
end Go.Proofs.YtfehnfbmlomccaaDoor
