/- The walk of QueueFull. -/
import Derived.Test.YtfehnfbmlomccaaDoorQDrop
import Derived.Test.YtfehnfbmlomccaaDoorErr
namespace Go.Proofs.YtfehnfbmlomccaaDoor
open Go.RowKit

/-- the first m conns of shard 0 -/
def qfL (m : Nat) : List (Int × Int) := (List.range m).map fun (i : Nat) => ((0 : Int), (i : Int))
theorem qfL_succ (m : Nat) : qfL m ++ [(0, (m : Int))] = qfL (m + 1) := by unfold qfL; rw [List.range_succ, List.map_append]; rfl
theorem qfL_length (m : Nat) : (qfL m).length = m := by simp [qfL]
theorem qf_ok : ∀ m : Nat, m < 8 → offE (qfL m) 0 (m : Int) = 0 := by decide +kernel
theorem qf_full : ∀ m : Nat, m < 12 → 8 ≤ m → offE (qfL 8) 0 (m : Int) = 4 := by decide +kernel
theorem qf_idx : ∀ m : Nat, m < 9 → 1 ≤ m → idxP (cnP 0 0) (qfL m) = ((0 : Nat) : Int) := by decide +kernel
theorem qf_more : ∀ m : Nat, m < 9 → 1 ≤ m → offE ((qfL m).eraseIdx 0) 0 99 = 0 := by decide +kernel
/-- rows that began at B or later -/
def qB (B : Nat) (v : Value) : Prop := ∀ g, v.ownBlock = some g → B ≤ g
theorem qB.row {B : Nat} {w : World} {v v' : Value} (h : qB B v) (hr : rowOf w v v') (hB : B ≤ w.heap.size) : qB B v' := by
  intro g hg
  rcases hr with e | ⟨g', e, h'⟩
  · exact h g (by rw [← e]; exact hg)
  · rw [hg] at e
    have := Option.some.inj e
    omega
theorem qB.below {B b : Nat} {a w w' : World} {v : Value} (h : qB B v) (hb : B ≤ b) (ha : Below B a w) (hk : Kept (qS b v) w w') (hB : B ≤ w.heap.size) : Below B a w' :=
  ha.trans (hk.below hB (fun x hx => by
    rcases mem_qS.1 hx with rfl | hx
    · exact hb
    · exact h x hx))
theorem offer_len {zs : List (Int × Int)} {s n : Int} (h : offE zs s n = 0) : zs.length < 8 := by
  unfold offE at h
  split at h
  · exact absurd h (by decide)
  · split at h
    · exact absurd h (by decide)
    · split at h
      · exact absurd h (by decide)
      · omega
set_option maxRecDepth 100000 in
set_option maxHeartbeats 8000000 in
theorem walkQueueFull (w : World) (many : Int) (_w0 : (Lit.int .i64 many).wf = true) (hE : ErrT w) :
    Calls Tryd.prog 4 #[.int .i64 many] w fun e w' => e = .returned (.bool true) ∧ Below w.heap.size w w' := by
  clear _w0
  have hw0 := hE.pos
  go_enter Tryd.func4, Tryd.ntmps4
  go_wp2_with fail
  refine (qNew _).mono ?_
  rintro e w1 ⟨rfl, hQ1, hB1⟩
  have HQ1 := hide hQ1
  clear hQ1
  go_wp2_with fail
  go_loopw [4] (fun i wr => ∃ (k : Nat) (v : Value), i = .int .i64 k ∧ (k ≤ many ∨ k = 0) ∧ k ≤ 12 ∧ QAt 74 wr w.heap.size v (qfL (min k 8)) ∧ qB w.heap.size v ∧ Below w.heap.size w wr) (fun i _ => 100 - (intOf i).toNat)
  case atStart => exact ⟨0, _, rfl, by omega, by omega, HQ1.out, by intro g hg; simp [Value.ownBlock] at hg, hB1⟩
  case round =>
    obtain ⟨k, v, rfl, hk, hk2, hq, hqb, hb⟩ := hrel
    obtain ⟨w9, rfl⟩ : ∃ x, x = wr := ⟨wr, rfl⟩
    have HQ := hide hq
    have HQB := hide hqb
    have hsz := hb.size
    clear hq hqb HQ1
    by_cases h1 : (k : Int) < many
    · by_cases h2 : k < 12
      · by_cases h3 : k < 8
        · have hm : min k 8 = k := by omega
          rw [hm] at HQ
          have OK := hide (fun W v (h : QAt 74 W w.heap.size v (qfL k)) => qOffer_ok (qfL_succ k) (qf_ok k h3) w.heap.size v W h)
          have hm2 : min (k + 1) 8 = k + 1 := by omega
          clear hm
          go_wp2_with fail
          refine (OK.out _ _ HQ.out).mono ?_
          rintro e w2 ⟨rfl, v2, hq2, hr2, hk2'⟩
          have HB2 := hide (HQB.out.below (Nat.le_refl _) hb hk2' hsz)
          have HQB2 := hide (HQB.out.row hr2 hsz)
          have HQ2 := hide hq2
          clear hq2 hr2 hk2' OK
          go_wp2
          go_roundw
          case rel => exact ⟨k + 1, v2, by go_num, by omega, by omega, by rw [hm2]; exact HQ2.out, HQB2.out, HB2.out⟩
          case measure => simp [intOf] <;> omega
        · have hm : min k 8 = 8 := by omega
          rw [hm] at HQ
          have BD := hide (fun W v (h : QAt 74 W w.heap.size v (qfL 8)) => qOffer_bad (c := 4) (qf_full k h2 (by omega)) (by decide) (Nat.le_of_eq (qfL_length 8)) w.heap.size v W h)
          have hm2 : min (k + 1) 8 = 8 := by omega
          clear hm
          go_wp2_with fail
          refine (BD.out _ _ HQ.out).mono ?_
          rintro e w2 ⟨rfl, hb2⟩
          have hB2 : Below w.heap.size w w2 := hb.trans (hb2.mono hsz)
          have HQ2 := hide (HQ.out.below hb2)
          clear hb2 BD
          go_wp2_with fail
          refine (error_any 4 4 _ (hE.below (B := w.heap.size) hB2 hE.pos)).mono ?_
          rintro e w3 ⟨rfl, hb3⟩
          have hB3 : Below w.heap.size w w3 := hB2.trans (hb3.mono hB2.size)
          have HQ3 := hide (HQ2.out.below hb3)
          clear hb3
          go_wp2
          go_roundw
          case rel => exact ⟨k + 1, v, by go_num, by omega, by omega, by rw [hm2]; exact HQ3.out, HQB.out, hB3⟩
          case measure => simp [intOf] <;> omega
      · have AL := hide (qAll _ _ _ _ HQ.out)
        obtain ⟨m, hm⟩ : ∃ m, min k 8 = m := ⟨_, rfl⟩
        rw [hm] at HQ AL
        go_wp2_with fail
        refine AL.out.mono ?_
        rintro e w2 ⟨va, rfl, hp2, hb2⟩
        have hB2 : Below w.heap.size w w2 := hb.trans (hb2.mono hsz)
        have HQ2 := hide (HQ.out.below hb2)
        obtain ⟨a2, c2, rfl⟩ : ∃ a c, va = .slice a m c := by
          rcases hp2.2 with ⟨h0, a, c, rfl⟩ | ⟨b, off, c, rfl, _⟩
          · have := qfL_length m
            rw [h0] at this
            exact ⟨a, c, by rw [← this]; rfl⟩
          · exact ⟨_, c, by rw [qfL_length]⟩
        clear hp2 hb2 AL HQ
        by_cases hm0 : m = 0
        · subst hm0
          obtain rfl : k = 0 := by omega
          have hmany : many < 1 := by omega
          go_wp2
          go_ret
          exact ⟨rfl, hB2⟩
        · have hm8 : m < 9 := by omega
          have hmz : ((m : Int) == 0) = false := beq_eq_false_iff_ne.2 (by omega)
          obtain ⟨ns, hns⟩ : ∃ ns, (qfL m).eraseIdx 0 = ns := ⟨_, rfl⟩
          have hmo := qf_more m hm8 (by omega)
          rw [hns] at hmo
          obtain ⟨ps, hps⟩ : ∃ ps, ns ++ [(0, 99)] = ps := ⟨_, rfl⟩
          have DR := hide (qDrop_ok (s := 0) (n := 0) (i := 0) (by decide) (by rw [qfL_length]; omega) (qf_idx m hm8 (by omega)) hns _ _ _ HQ2.out)
          have OF := hide (fun W v (h : QAt 74 W w.heap.size v ns) => qOffer_ok hps hmo w.heap.size v W h)
          clear hns hps hmo hm0 hm8 HQ2
          go_wp2_with fail
          refine DR.out.mono ?_
          rintro e w3 ⟨rfl, v3, hq3, hr3, hk3⟩
          have hB3 := HQB.out.below (Nat.le_refl _) hB2 hk3 hB2.size
          have HQB3 := hide (HQB.out.row hr3 hB2.size)
          have HQ3 := hide hq3
          clear hq3 hr3 hk3 DR
          go_wp2_with fail
          refine (OF.out _ _ HQ3.out).mono ?_
          rintro e w4 ⟨rfl, v4, hq4, hr4, hk4⟩
          have hB4 := HQB3.out.below (Nat.le_refl _) hB3 hk4 hB3.size
          clear hq4 hr4 hk4
          go_wp2
          go_ret
          exact ⟨rfl, hB4⟩
    · have AL := hide (qAll _ _ _ _ HQ.out)
      obtain ⟨m, hm⟩ : ∃ m, min k 8 = m := ⟨_, rfl⟩
      rw [hm] at HQ AL
      go_wp2_with fail
      refine AL.out.mono ?_
      rintro e w2 ⟨va, rfl, hp2, hb2⟩
      have hB2 : Below w.heap.size w w2 := hb.trans (hb2.mono hsz)
      have HQ2 := hide (HQ.out.below hb2)
      obtain ⟨a2, c2, rfl⟩ : ∃ a c, va = .slice a m c := by
        rcases hp2.2 with ⟨h0, a, c, rfl⟩ | ⟨b, off, c, rfl, _⟩
        · have := qfL_length m
          rw [h0] at this
          exact ⟨a, c, by rw [← this]; rfl⟩
        · exact ⟨_, c, by rw [qfL_length]⟩
      clear hp2 hb2 AL HQ
      by_cases hm0 : m = 0
      · subst hm0
        obtain rfl : k = 0 := by omega
        have hmany : many < 1 := by omega
        go_wp2
        go_ret
        exact ⟨rfl, hB2⟩
      · have hm8 : m < 9 := by omega
        have hmz : ((m : Int) == 0) = false := beq_eq_false_iff_ne.2 (by omega)
        obtain ⟨ns, hns⟩ : ∃ ns, (qfL m).eraseIdx 0 = ns := ⟨_, rfl⟩
        have hmo := qf_more m hm8 (by omega)
        rw [hns] at hmo
        obtain ⟨ps, hps⟩ : ∃ ps, ns ++ [(0, 99)] = ps := ⟨_, rfl⟩
        have DR := hide (qDrop_ok (s := 0) (n := 0) (i := 0) (by decide) (by rw [qfL_length]; omega) (qf_idx m hm8 (by omega)) hns _ _ _ HQ2.out)
        have OF := hide (fun W v (h : QAt 74 W w.heap.size v ns) => qOffer_ok hps hmo w.heap.size v W h)
        clear hns hps hmo hm0 hm8 HQ2
        go_wp2_with fail
        refine DR.out.mono ?_
        rintro e w3 ⟨rfl, v3, hq3, hr3, hk3⟩
        have hB3 := HQB.out.below (Nat.le_refl _) hB2 hk3 hB2.size
        have HQB3 := hide (HQB.out.row hr3 hB2.size)
        have HQ3 := hide hq3
        clear hq3 hr3 hk3 DR
        go_wp2_with fail
        refine (OF.out _ _ HQ3.out).mono ?_
        rintro e w4 ⟨rfl, v4, hq4, hr4, hk4⟩
        have hB4 := HQB3.out.below (Nat.le_refl _) hB3 hk4 hB3.size
        clear hq4 hr4 hk4
        go_wp2
        go_ret
        exact ⟨rfl, hB4⟩
end Go.Proofs.YtfehnfbmlomccaaDoor
