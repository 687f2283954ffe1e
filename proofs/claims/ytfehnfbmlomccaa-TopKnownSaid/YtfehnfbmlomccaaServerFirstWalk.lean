/- The walk of ServerFirst. -/
import Derived.Test.YtfehnfbmlomccaaSHello
import Derived.Test.YtfehnfbmlomccaaQueueFullWalk
namespace Go.Proofs.Ytfehnfbmlomccaa
open Go.RowKit

theorem rightB_blank (e k o a now li : Int) : rightB e k o 0 0 0 0 a now li = false := by simp [rightB]
theorem oldB_blank (e k o now : Int) : oldB e k o 0 0 0 0 now = false := by simp [oldB]
theorem ans_blank_bad {e k o a now li wt : Int} {s : ByteArray} (hr : ringE e k o = 0) (h : (inB a && tmB now) = false) : ansN e k o a 0 0 0 0 0 0 0 0 s wt now li = (0, false, 1) := by
  unfold ansN
  rw [if_neg (by simp [hr]), if_pos (by rw [h]; simp)]
theorem ans_blank {e k o a now li wt : Int} {s : ByteArray} (hr : ringE e k o = 0) (ha : inB a = true) (hn : tmB now = true) (hl : tmB li = true) (hw : (needsOf wt false false).2 = 0) : ansN e k o a 0 0 0 0 0 0 0 0 s wt now li = ((needsOf wt false false).1, false, 0) := by
  unfold ansN
  rw [if_neg (by simp [hr]), if_neg (by simp [ha, hn, hl]), rightB_blank, oldB_blank, if_neg (by simp [hw])]
  have : earlyB (needsOf wt false false).1 false s = false := by simp [earlyB]
  rw [this]
theorem sf_off : offE [] 0 0 = 0 := by decide +kernel
set_option maxRecDepth 100000 in
set_option maxHeartbeats 8000000 in
theorem walkServerFirst (w : World) (seed : Int) (_w0 : (Lit.int .i64 seed).wf = true) (long : Int) (_w1 : (Lit.int .i64 long).wf = true) (a : Int) (_w2 : (Lit.int .i64 a).wf = true) (now : Int) (_w3 : (Lit.int .i64 now).wf = true) :
    Calls Try.prog 4 #[.int .i64 seed, .int .i64 long, .int .i64 a, .int .i64 now] w fun r w' => r = .returned (.bool true) ∧ Below w.heap.size w w' := by
  clear _w0 _w1 _w2 _w3
  cases hs : inB seed
  · have SN := hide (sNew_bad1 (li := long) hs w)
    have hs' := inB_false.1 hs
    clear hs
    by_cases h1 : seed < 0
    · go_enter Try.func4, Try.ntmps4
      go_wp2_with fail
      refine SN.out.mono ?_
      rintro r w1 ⟨rfl, hb1⟩
      go_wp2
      go_ret
      exact ⟨rfl, hb1⟩
    · have h2 : 999982 < seed := by omega
      go_enter Try.func4, Try.ntmps4
      go_wp2_with fail
      refine SN.out.mono ?_
      rintro r w1 ⟨rfl, hb1⟩
      go_wp2
      go_ret
      exact ⟨rfl, hb1⟩
  · obtain ⟨s0, s1⟩ := inB_true.1 hs
    have s2 : ¬ seed < 0 := by omega
    have s3 : ¬ 999982 < seed := by omega
    cases hl : tmB long
    · have SN := hide (sNew_bad2 hs hl w)
      have hl' := tmB_false.1 hl
      clear hs hl
      by_cases h1 : long < 0
      · go_enter Try.func4, Try.ntmps4
        go_wp2_with fail
        refine SN.out.mono ?_
        rintro r w1 ⟨rfl, hb1⟩
        go_wp2
        go_ret
        exact ⟨rfl, hb1⟩
      · have h2 : 100000 < long := by omega
        go_enter Try.func4, Try.ntmps4
        go_wp2_with fail
        refine SN.out.mono ?_
        rintro r w1 ⟨rfl, hb1⟩
        go_wp2
        go_ret
        exact ⟨rfl, hb1⟩
    · have SN := hide (sNew_ok hs hl w)
      have hk := ringNew_key hs
      generalize tagOf seed [0] = K at SN hk
      cases hav : inB a && tmB now
      · have HE := hide (fun b q bi bv W (h : SQ W b 0 K 0 long q bi bv 0 (.slice none 0 0) []) => sHello_err (s := ByteArray.empty) (by decide) (ans_blank_bad (a := a) (now := now) (li := long) (s := ByteArray.empty) (wt := (([] : List (Int × Int)).length : Int)) hk hav) (by decide) W h)
        have hor : a < 0 ∨ 999982 < a ∨ now < 0 ∨ 100000 < now := by
          rcases Bool.and_eq_false_iff.1 hav with h | h
          · have := inB_false.1 h; omega
          · have := tmB_false.1 h; omega
        clear hav hs hl hk
        by_cases x1 : a < 0
        ·
          go_enter Try.func4, Try.ntmps4
          go_wp2_with fail
          refine SN.out.mono ?_
          rintro r w1 ⟨b, q, bi, bb, bv, rfl, hS1, _, _, hlt, hB1⟩
          have HS1 := hide hS1
          clear hS1 SN
          have hX := hB1.size
          go_wp2_with fail
          refine (HE.out _ _ _ _ _ HS1.out).mono ?_
          rintro r w2 ⟨rfl, hb2⟩
          have hB2 : Below w.heap.size w w2 := hB1.trans (hb2.mono hB1.size)
          have hB2' := hB2.alloc hB2.size (.cells #[.int .i64 0, .int .i64 0, .int .i64 0, .int .i64 0, .int .i64 0, .int .i64 0, .int .i64 0, .bool false] 34)
          have HS2 := hide ((HS1.out.below hb2).below ((Below.refl _ _).alloc (Nat.le_refl _) (.cells #[.int .i64 0, .int .i64 0, .int .i64 0, .int .i64 0, .int .i64 0, .int .i64 0, .int .i64 0, .bool false] 34)))
          clear hb2 HE HS1
          go_wp2_with fail
          refine (sWaiting _ HS2.out).mono ?_
          rintro r w3 ⟨rfl, hb3⟩
          have hB3 : Below w.heap.size w w3 := hB2'.trans (hb3.mono hB2'.size)
          go_wp2
          go_ret
          exact ⟨rfl, hB3⟩
        · by_cases x2 : 999982 < a
          ·
            go_enter Try.func4, Try.ntmps4
            go_wp2_with fail
            refine SN.out.mono ?_
            rintro r w1 ⟨b, q, bi, bb, bv, rfl, hS1, _, _, hlt, hB1⟩
            have HS1 := hide hS1
            clear hS1 SN
            have hX := hB1.size
            go_wp2_with fail
            refine (HE.out _ _ _ _ _ HS1.out).mono ?_
            rintro r w2 ⟨rfl, hb2⟩
            have hB2 : Below w.heap.size w w2 := hB1.trans (hb2.mono hB1.size)
            have hB2' := hB2.alloc hB2.size (.cells #[.int .i64 0, .int .i64 0, .int .i64 0, .int .i64 0, .int .i64 0, .int .i64 0, .int .i64 0, .bool false] 34)
            have HS2 := hide ((HS1.out.below hb2).below ((Below.refl _ _).alloc (Nat.le_refl _) (.cells #[.int .i64 0, .int .i64 0, .int .i64 0, .int .i64 0, .int .i64 0, .int .i64 0, .int .i64 0, .bool false] 34)))
            clear hb2 HE HS1
            go_wp2_with fail
            refine (sWaiting _ HS2.out).mono ?_
            rintro r w3 ⟨rfl, hb3⟩
            have hB3 : Below w.heap.size w w3 := hB2'.trans (hb3.mono hB2'.size)
            go_wp2
            go_ret
            exact ⟨rfl, hB3⟩
          · by_cases x3 : now < 0
            ·
              go_enter Try.func4, Try.ntmps4
              go_wp2_with fail
              refine SN.out.mono ?_
              rintro r w1 ⟨b, q, bi, bb, bv, rfl, hS1, _, _, hlt, hB1⟩
              have HS1 := hide hS1
              clear hS1 SN
              have hX := hB1.size
              go_wp2_with fail
              refine (HE.out _ _ _ _ _ HS1.out).mono ?_
              rintro r w2 ⟨rfl, hb2⟩
              have hB2 : Below w.heap.size w w2 := hB1.trans (hb2.mono hB1.size)
              have hB2' := hB2.alloc hB2.size (.cells #[.int .i64 0, .int .i64 0, .int .i64 0, .int .i64 0, .int .i64 0, .int .i64 0, .int .i64 0, .bool false] 34)
              have HS2 := hide ((HS1.out.below hb2).below ((Below.refl _ _).alloc (Nat.le_refl _) (.cells #[.int .i64 0, .int .i64 0, .int .i64 0, .int .i64 0, .int .i64 0, .int .i64 0, .int .i64 0, .bool false] 34)))
              clear hb2 HE HS1
              go_wp2_with fail
              refine (sWaiting _ HS2.out).mono ?_
              rintro r w3 ⟨rfl, hb3⟩
              have hB3 : Below w.heap.size w w3 := hB2'.trans (hb3.mono hB2'.size)
              go_wp2
              go_ret
              exact ⟨rfl, hB3⟩
            · have x4 : 100000 < now := by omega
              go_enter Try.func4, Try.ntmps4
              go_wp2_with fail
              refine SN.out.mono ?_
              rintro r w1 ⟨b, q, bi, bb, bv, rfl, hS1, _, _, hlt, hB1⟩
              have HS1 := hide hS1
              clear hS1 SN
              have hX := hB1.size
              go_wp2_with fail
              refine (HE.out _ _ _ _ _ HS1.out).mono ?_
              rintro r w2 ⟨rfl, hb2⟩
              have hB2 : Below w.heap.size w w2 := hB1.trans (hb2.mono hB1.size)
              have hB2' := hB2.alloc hB2.size (.cells #[.int .i64 0, .int .i64 0, .int .i64 0, .int .i64 0, .int .i64 0, .int .i64 0, .int .i64 0, .bool false] 34)
              have HS2 := hide ((HS1.out.below hb2).below ((Below.refl _ _).alloc (Nat.le_refl _) (.cells #[.int .i64 0, .int .i64 0, .int .i64 0, .int .i64 0, .int .i64 0, .int .i64 0, .int .i64 0, .bool false] 34)))
              clear hb2 HE HS1
              go_wp2_with fail
              refine (sWaiting _ HS2.out).mono ?_
              rintro r w3 ⟨rfl, hb3⟩
              have hB3 : Below w.heap.size w w3 := hB2'.trans (hb3.mono hB2'.size)
              go_wp2
              go_ret
              exact ⟨rfl, hB3⟩
      · rw [Bool.and_eq_true] at hav
        obtain ⟨ha, hn⟩ := hav
        have HE := hide (fun b q bi bv W (h : SQ W b 0 K 0 long q bi bv 0 (.slice none 0 0) []) => sHello_wok (s := ByteArray.empty) (ns := [(0, 0)]) (by decide) (ans_blank (s := ByteArray.empty) (wt := (([] : List (Int × Int)).length : Int)) hk ha hn hl (by decide +kernel)) rfl sf_off (by decide) W h)
        clear hs hl hk ha hn
        go_enter Try.func4, Try.ntmps4
        go_wp2_with fail
        refine SN.out.mono ?_
        rintro r w1 ⟨b, q, bi, bb, bv, rfl, hS1, _, _, hlt, hB1⟩
        have HS1 := hide hS1
        clear hS1 SN
        have hX := hB1.size
        go_wp2_with fail
        refine (HE.out _ _ _ _ _ HS1.out).mono ?_
        rintro r w2 ⟨rfl, v2, hS2, hr2, hk2⟩
        have hB2 : Below w.heap.size w w2 := hB1.trans (hk2.below hX (fun x hx => by
          rcases List.mem_cons.1 hx with e | hx
          · omega
          · rcases mem_qS.1 hx with e | e
            · omega
            · simp [Value.ownBlock] at e))
        obtain ⟨W2, hW2⟩ : ∃ W2, W2 = w2.alloc (.cells #[.int .i64 1, .int .i64 0, .int .i64 0, .int .i64 0, .int .i64 0, .int .i64 0, .int .i64 0, .bool false] 34) := ⟨_, rfl⟩
        have hA2 : Below w2.heap.size w2 W2 := by rw [hW2]; exact (Below.refl _ _).alloc (Nat.le_refl _) _
        have hO2 : ObjAt W2 w2.heap.size 34 [.int .i64 1, .int .i64 0, .int .i64 0, .int .i64 0, .int .i64 0, .int .i64 0, .int .i64 0, .bool false] := by rw [hW2]; exact ObjAt.new _ _ _
        have HO2 := hide hO2
        have HS2 := hide (hS2.below hA2)
        have hv2 : v2.ownBlock ≠ some w2.heap.size := fun e => by have := hS2.que.2.1.lt _ e; omega
        have hq2 : q < w2.heap.size := hS2.que.1.lt
        have hb2 : b < w2.heap.size := hS2.obj.lt
        have HV2 : Hid (qB w.heap.size v2) := by
          intro g hg
          rcases hr2 with e | ⟨g', e, h'⟩
          · rw [e] at hg; simp [Value.ownBlock] at hg
          · rw [e] at hg; have := Option.some.inj hg; omega
        have HB2 := hide (hB2.trans (hA2.mono hB2.size))
        have HX2 := hide hB2.size
        clear hS2 hr2 hk2 hB2 HE HS1 hO2
        go_wp2_with fail
        rw [← hW2]
        refine (sPull_one _ HS2.out).mono ?_
        rintro r w3 ⟨rfl, v3, hS3, hr3, hk3⟩
        have hB3 : Below w.heap.size w w3 := HB2.out.trans (hk3.below HB2.out.size (fun x hx => by
          rcases mem_qS.1 hx with e | e
          · omega
          · exact HV2.out x e))
        have hO3 := hk3.obj HO2.out (fun hm => by
          rcases mem_qS.1 hm with e | e
          · omega
          · exact hv2 e)
        obtain ⟨W3, hW3⟩ : ∃ W3, W3 = w3.alloc (.cells #[.int .i64 0, .int .i64 0] 32) := ⟨_, rfl⟩
        have hA3 : Below w3.heap.size w3 W3 := by rw [hW3]; exact (Below.refl _ _).alloc (Nat.le_refl _) _
        have HO3 := hide (hO3.below hA3)
        have HC3 : Hid (ObjAt W3 w3.heap.size 32 [.int .i64 0, .int .i64 0]) := by rw [hW3]; exact ObjAt.new _ _ _
        have HS3 := hide (hS3.below hA3)
        have HB3 := hide (hB3.trans (hA3.mono hB3.size))
        clear hS3 hr3 hk3 hB3 hO3 hA3 hW2 HS2 HO2 HB2 HV2
        have x0 := HO3.out.cell (i := 0) rfl
        have x5 := HO3.out.cell (i := 5) rfl
        have x6 := HO3.out.cell (i := 6) rfl
        have x7 := HO3.out.cell (i := 7) rfl
        have y0 := HC3.out.cell (i := 0) rfl
        have y1 := HC3.out.cell (i := 1) rfl
        go_upto_region 8 with (fail)
        rw [← hW3]
        clear hW3
        go_wp2_with fail
        refine (sWaiting _ HS3.out).mono ?_
        rintro r w4 ⟨rfl, hb4⟩
        have hB4 : Below w.heap.size w w4 := HB3.out.trans (hb4.mono HB3.out.size)
        go_wp2
        go_ret
        exact ⟨rfl, hB4⟩
end Go.Proofs.Ytfehnfbmlomccaa
