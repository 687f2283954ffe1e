/- The walk of ServerOnce. -/
import Derived.Test.YtlnehoedflbifaaServerO3
import Derived.Test.YtlnehoedflbifaaTickMade
import Derived.Test.YtlnehoedflbifaaConn
import Derived.Test.YtlnehoedflbifaaOpen
namespace Go.Proofs.Ytlnehoedflbifaa
open Go.RowKit

theorem so_made {e k o u now : Int} (hr : ringE e k o = 0) (hu : tmB u = true) (hn : tmB now = true) (h0 : u ≠ 0) (hle : now ≤ u) : oldB e k o e 0 u (tagOf k [2, 0, u]) now = true := by
  have hb := tmB_true.1 hn
  unfold oldB
  rw [tickE_made hr (by decide) hu hb.1 hb.2, if_neg (by omega)]
  simp [h0]
theorem so_ans {K now : Int} {s : ByteArray} (hr : ringE 0 K 0 = 0) (hn : tmB now = true) (hle : now ≤ 20) (hs : 0 < s.size ∧ s.size ≤ 40) {zs : List (Int × Int)} (hz : zs = []) : ansN 0 K 0 1 0 0 0 0 0 0 20 (tagOf K [2, 0, 20]) s (zs.length : Int) now 50 = (1, true, 0) := by
  subst hz
  have hold := so_made hr (u := 20) (by decide) hn (by decide) hle
  have hneed : needsOf ((([] : List (Int × Int)).length : Nat) : Int) (rightB 0 K 0 0 0 0 0 1 now 50) (oldB 0 K 0 0 0 20 (tagOf K [2, 0, 20]) now) = (1, 0) := by
    unfold needsOf
    rw [if_neg (by simp), if_neg (by simp), if_neg (by simp)]
  rw [ans_mk hr (by decide) hn (by decide) hneed, hold]
  simp [earlyB, hs]

set_option maxRecDepth 100000 in
set_option maxHeartbeats 32000000 in
theorem walkServerOnce (w : World) (seed : Int) (_w0 : (Lit.int .i64 seed).wf = true) (long : Int) (_w1 : (Lit.int .i64 long).wf = true) (a : Option Addr) (len cap : Nat) (dd : List Int) (_hl : len ≤ cap) (_hc : cap ≤ maxLen) (hr : IntRow w a len dd) (a2 : Option Addr) (len2 cap2 : Nat) (tt : List Int) (_hl2 : len2 ≤ cap2) (_hc2 : cap2 ≤ maxLen) (hr2 : IntRow w a2 len2 tt) (u : Int) (_w4 : (Lit.int .i64 u).wf = true) (ad : Int) (_w5 : (Lit.int .i64 ad).wf = true) :
    Calls Try.prog 3 #[.int .i64 seed, .int .i64 long, .slice a len cap, .slice a2 len2 cap2, .int .i64 u, .int .i64 ad] w fun r w' => r = .returned (.bool true) ∧ Below w.heap.size w w' := by
  have hm : len ≤ maxLen := hr.2.1
  have hm2 : len2 ≤ maxLen := hr2.2.1
  unfold maxLen at hm hm2
  have HR := hide hr.split
  have HR2 := hide hr2.split
  clear hr hr2 _w0 _w1 _hl _hc _hl2 _hc2 _w4 _w5
  have SN7 := hide (fun W => svNew (seed := 7) (li := 50) (by decide) (by decide) W)
  have hk7 := ringNew_key (seed := 7) (by decide)
  generalize tagOf 7 [0] = K at SN7 hk7
  have hA5 := so_ans (s := ⟨#[104, 105]⟩) hk7 (now := 5) (by decide) (by decide) (by decide) (zs := []) rfl
  have hA6 := so_ans (s := ⟨#[104, 105]⟩) hk7 (now := 6) (by decide) (by decide) (by decide) (zs := []) rfl
  have TK1 := hide (fun (W : World) (B b q bi bb bv : Nat) (v v1 v2 : Value) (zs z1 z2 : List (Int × Int)) (cn : Int) (h : SV W B b q bi bb bv 0 K 0 50 cn v v1 v2 zs z1 z2 0 0 0) => svTicket_ok (u := 20) (x := 0) (n' := 1) (m' := 8) hk7 (by decide) (by decide) (by decide) (by decide) (by decide) (by decide) W h)
  generalize tagOf K [2, 0, 20] = g3 at hA5 hA6 TK1
  have HE5 := hide (fun (W : World) (B b q bi bb bv : Nat) (v v1 v2 : Value) (n m many : Int) (hB : B ≤ W.heap.size) (h : SV W B b q bi bb bv 0 K 0 50 0 v v1 v2 [] [] [] n m many) => sHelloE_ok (ys := [(0, 20)]) (ns := [(0, 0)]) (by decide) hA5 rfl (by decide +kernel) (by decide) (by decide) (by decide) (by decide) W hB h)
  have HE6 := hide (fun (W : World) (B b q bi bb bv : Nat) (v v1 v2 : Value) (n m many : Int) (hB : B ≤ W.heap.size) (h : SV W B b q bi bb bv 0 K 0 50 1 v v1 v2 [] [(0, 20)] [(0, 20)] n m many) => sHelloE_no (ns := [(0, 1)]) (c := 7) (by decide) hA6 rfl (by decide +kernel) (by decide) (by decide) (by decide) W hB h)
  clear hA5 hA6
  go_enter Try.func3, Try.ntmps3
  go_wp2_with fail
  refine (SN7.out _).mono ?_
  rintro r w1 ⟨b, q, bi, bb, bv, rfl, hS1, hB1⟩
  have HS1 := hide hS1
  clear hS1 SN7
  go_wp2_with fail
  refine (TK1.out _ _ _ _ _ _ _ _ _ _ _ _ _ _ HS1.out).mono ?_
  rintro r w2 ⟨rfl, hS2, hT2⟩
  have hB2 := HS1.out.bel hB1 hB1.size hT2
  obtain ⟨W2, hW2⟩ : ∃ W2, W2 = w2.alloc (.cells #[.int .i64 0, .int .i64 0, .int .i64 20, .int .i64 g3] 29) := ⟨_, rfl⟩
  have hA2 : Below w2.heap.size w2 W2 := by rw [hW2]; exact (Below.refl _ _).alloc (Nat.le_refl _) _
  have HM2 : Hid (ObjAt W2 w2.heap.size 29 [.int .i64 0, .int .i64 0, .int .i64 20, .int .i64 g3] ∧ w2.heap.size ∉ svF b q bi bb bv (.slice none 0 0) (.slice none 0 0) (.slice none 0 0)) := hide ⟨by rw [hW2]; exact ObjAt.new _ _ _, fun hx => by have := (hS2.lt _ hx).2; omega⟩
  have HS2 := hide (hS2.below hA2)
  have HB2 := hide (hB2.trans (hA2.mono hB2.size))
  have x0 := HM2.out.1.cell (i := 0) rfl
  have x1 := HM2.out.1.cell (i := 1) rfl
  have x2 := HM2.out.1.cell (i := 2) rfl
  have x3 := HM2.out.1.cell (i := 3) rfl
  clear hS2 hT2 hB2 hA2 HS1 TK1
  go_upto_region 5 with (fail)
  rw [← hW2]
  clear hW2
  go_wp2_with fail
  refine (HE5.out _ _ _ _ _ _ _ _ _ _ _ _ _ HB2.out.size HS2.out).mono ?_
  rintro r w3 ⟨rfl, v3, va3, vb3, hS3, hT3⟩
  have hB3 := HS2.out.bel HB2.out HB2.out.size hT3
  obtain ⟨W3, hW3⟩ : ∃ W3, W3 = w3.alloc (.cells #[.int .i64 1, .int .i64 0, .int .i64 0, .int .i64 0, .int .i64 0, .int .i64 0, .int .i64 0, .bool true] 37) := ⟨_, rfl⟩
  have hA3 : Below w3.heap.size w3 W3 := by rw [hW3]; exact (Below.refl _ _).alloc (Nat.le_refl _) _
  have HA3 : Hid (ObjAt W3 w3.heap.size 37 [.int .i64 1, .int .i64 0, .int .i64 0, .int .i64 0, .int .i64 0, .int .i64 0, .int .i64 0, .bool true] ∧ w3.heap.size ∉ svF b q bi bb bv v3 va3 vb3) := hide ⟨by rw [hW3]; exact ObjAt.new _ _ _, fun hx => by have := (hS3.lt _ hx).2; omega⟩
  have hM3 := mine_step HM2.out hT3
  have HM3 := hide (show _ ∧ _ from ⟨hM3.1.below hA3, hM3.2⟩)
  have HS3 := hide (hS3.below hA3)
  have HB3 := hide (hB3.trans (hA3.mono hB3.size))
  clear hS3 hT3 hB3 hA3 HS2 HE5 HM2 HB2 hM3 x0 x1 x2 x3
  go_upto_region 6 with (fail)
  rw [← hW3]
  clear hW3
  go_wp2_with fail
  refine (svCrash _ HB3.out.size HS3.out).mono ?_
  rintro r w4 ⟨rfl, q4, va4, hS4, hT4⟩
  have HB4 := hide (HS3.out.bel HB3.out HB3.out.size hT4)
  have HM4 := hide (mine_step HM3.out hT4)
  have HA4 := hide (mine_step HA3.out hT4)
  have HS4 := hide hS4
  have x0 := HM4.out.1.cell (i := 0) rfl
  have x1 := HM4.out.1.cell (i := 1) rfl
  have x2 := HM4.out.1.cell (i := 2) rfl
  have x3 := HM4.out.1.cell (i := 3) rfl
  clear hS4 hT4 HM3 HA3 HS3 HB3
  go_wp2_with fail
  refine (HE6.out _ _ _ _ _ _ _ _ _ _ _ _ _ HB4.out.size HS4.out).mono ?_
  rintro r w5 ⟨rfl, v5, hS5, hT5⟩
  have hB5 := HS4.out.bel HB4.out HB4.out.size hT5
  obtain ⟨W5, hW5⟩ : ∃ W5, W5 = w5.alloc (.cells #[.int .i64 1, .int .i64 0, .int .i64 0, .int .i64 0, .int .i64 0, .int .i64 0, .int .i64 1, .bool false] 37) := ⟨_, rfl⟩
  have hA5 : Below w5.heap.size w5 W5 := by rw [hW5]; exact (Below.refl _ _).alloc (Nat.le_refl _) _
  have HO5 : Hid (ObjAt W5 w5.heap.size 37 [.int .i64 1, .int .i64 0, .int .i64 0, .int .i64 0, .int .i64 0, .int .i64 0, .int .i64 1, .bool false]) := by rw [hW5]; exact ObjAt.new _ _ _
  have HP5 := hide ((mine_step HA4.out hT5).1.below hA5)
  have HB5 := hide (hB5.trans (hA5.mono hB5.size))
  clear hS5 hT5 hB5 hA5 HS4 HE6 HM4 HB4 HA4 x0 x1 x2 x3
  have y5 := HP5.out.cell (i := 5) rfl
  have y6 := HP5.out.cell (i := 6) rfl
  have y7 := HP5.out.cell (i := 7) rfl
  have y0 := HO5.out.cell (i := 0) rfl
  have z5 := HO5.out.cell (i := 5) rfl
  have z6 := HO5.out.cell (i := 6) rfl
  have z7 := HO5.out.cell (i := 7) rfl
  go_upto_region 8 with (fail)
  rw [← hW5]
  clear hW5
  have hZ5 := HB5.out.size
  cases hs : inB seed
  · have SN := hide (sNew_bad1 (li := long) hs W5)
    clear hs
    go_wp2_with fail
    refine SN.out.mono ?_
    rintro r w6 ⟨rfl, hb6⟩
    go_wp2
    go_ret
    exact ⟨rfl, HB5.out.trans (hb6.mono hZ5)⟩
  · cases hl : tmB long
    · have SN := hide (sNew_bad2 hs hl W5)
      clear hs hl
      go_wp2_with fail
      refine SN.out.mono ?_
      rintro r w6 ⟨rfl, hb6⟩
      go_wp2
      go_ret
      exact ⟨rfl, HB5.out.trans (hb6.mono hZ5)⟩
    ·
      have SN := hide (svNew hs hl W5)
      have hk2 := ringNew_key hs
      generalize tagOf seed [0] = K2 at SN hk2
      clear hs hl
      cases hu : tmB u
      ·
        have hum := tmB_false.1 hu
        have TB := hide (fun (W : World) (B b q bi bb bv : Nat) (v v1 v2 : Value) (h : SV W B b q bi bb bv 0 K2 0 long 0 v v1 v2 [] [] [] 0 0 0) => svTicket_bad (u := u) (c := 1) (by unfold tkmE; rw [if_neg (by simp [hk2]), hu]; rfl) (by decide) W h)
        clear hu
        by_cases hu0 : u < 0
        ·
          go_wp2_with fail
          refine SN.out.mono ?_
          rintro r w6 ⟨b2, q2, bi2, bb2, bv2, rfl, hS6, hb6⟩
          have HS6 := hide hS6
          clear hS6 SN
          have hB6 : Below w.heap.size w w6 := HB5.out.trans (hb6.mono hZ5)
          go_wp2_with fail
          refine (TB.out _ _ _ _ _ _ _ _ _ _ HS6.out).mono ?_
          rintro r w7 ⟨rfl, hb7⟩
          have hB7 : Below w.heap.size w w7 := hB6.trans (hb7.mono hB6.size)
          have hz7 := hB7.size
          go_wp2
          go_ret
          exact ⟨rfl, by first | exact hB7.alloc hz7 _ | go_grown⟩
        ·
          have hu1 : 100000 < u := by omega
          go_wp2_with fail
          refine SN.out.mono ?_
          rintro r w6 ⟨b2, q2, bi2, bb2, bv2, rfl, hS6, hb6⟩
          have HS6 := hide hS6
          clear hS6 SN
          have hB6 : Below w.heap.size w w6 := HB5.out.trans (hb6.mono hZ5)
          go_wp2_with fail
          refine (TB.out _ _ _ _ _ _ _ _ _ _ HS6.out).mono ?_
          rintro r w7 ⟨rfl, hb7⟩
          have hB7 : Below w.heap.size w w7 := hB6.trans (hb7.mono hB6.size)
          have hz7 := hB7.size
          go_wp2
          go_ret
          exact ⟨rfl, by first | exact hB7.alloc hz7 _ | go_grown⟩
      ·
        have HU := hide hu
        have hum := tmB_true.1 hu
        have TB := hide (fun (W : World) (B b q bi bb bv : Nat) (v v1 v2 : Value) (h : SV W B b q bi bb bv 0 K2 0 long 0 v v1 v2 [] [] [] 0 0 0) => svTicket_ok (u := u) (x := 0) (n' := 1) (m' := 8) hk2 hu (by decide) (by decide) (by decide) (by decide) (by decide) W h)
        generalize tagOf K2 [2, 0, u] = g4 at TB
        have HK2 := hide hk2
        clear hu hk2
        go_wp2_with fail
        refine SN.out.mono ?_
        rintro r w6 ⟨b2, q2, bi2, bb2, bv2, rfl, hS6, hb6⟩
        have HS6 := hide hS6
        clear hS6 SN
        have hB6 : Below w.heap.size w w6 := HB5.out.trans (hb6.mono hZ5)
        have hZ6 : W5.heap.size ≤ w6.heap.size := hb6.size
        go_wp2_with fail
        refine (TB.out _ _ _ _ _ _ _ _ _ _ HS6.out).mono ?_
        rintro r w7 ⟨rfl, hS7, hT7⟩
        have hb7 := HS6.out.bel hb6 hZ6 hT7
        obtain ⟨W7, hW7⟩ : ∃ W7, W7 = w7.alloc (.cells #[.int .i64 0, .int .i64 0, .int .i64 u, .int .i64 g4] 29) := ⟨_, rfl⟩
        have hA7 : Below w7.heap.size w7 W7 := by rw [hW7]; exact (Below.refl _ _).alloc (Nat.le_refl _) _
        have hx7 : w7.heap.size ∉ svF b2 q2 bi2 bb2 bv2 (.slice none 0 0) (.slice none 0 0) (.slice none 0 0) := fun hx => by have := (hS7.lt _ hx).2; omega
        have hO7 : ObjAt W7 w7.heap.size 29 [.int .i64 0, .int .i64 0, .int .i64 u, .int .i64 g4] := by rw [hW7]; exact ObjAt.new _ _ _
        obtain ⟨X, hX⟩ : ∃ X, X = w7.heap.size := ⟨_, rfl⟩
        rw [← hX] at hx7 hO7
        have HSO7 : Hid (SO W7 W5.heap.size b2 X long 0 u g4 0 0 1) := hide ⟨q2, bi2, bb2, bv2, 0, K2, 0, _, _, _, [], [], [], 1, 8, 1, hS7.below hA7, ⟨hO7, hx7⟩, HK2.out, by simp, by simp, .inl ⟨rfl, rfl, rfl⟩, by decide, by decide⟩
        have hB7 : Below w.heap.size w W7 := HB5.out.trans ((hb7.mono hZ5).trans ((hA7.mono (Nat.le_trans hZ5 hb7.size))))
        clear hS7 hT7 hb7 hA7 hx7 hO7 HS6 TB
        go_upto_region 16 with (fail)
        rw [← hW7, ← hX]
        clear hW7 hX
        obtain ⟨B, hB⟩ : ∃ B, B = W5.heap.size := ⟨_, rfl⟩
        rw [← hB] at HSO7
        have hBw : w.heap.size ≤ B := by rw [hB]; exact hZ5
        have hBW7 : B ≤ W7.heap.size := by
          obtain ⟨_, _, _, _, _, _, _, _, _, _, _, _, _, _, _, _, h1, _⟩ := HSO7.out
          have := h1.lt _ (mem_svF.2 (.inl rfl))
          omega
        clear hB HB5 HO5 HP5 y0 y5 y6 y7 z5 z6 z7 hZ5 hZ6 hB6 hb6
        go_wp2_with fail
        go_loopw [24, 25, 26, 27] (fun vl vc vs i wr => ∃ (k soon c : Nat) (lst cns : Int), vl = .int .i64 lst ∧ vc = .int .i64 cns ∧ vs = .int .i64 (soon : Int) ∧ i = .int .i64 k ∧ k ≤ len ∧ k ≤ len2 ∧ k ≤ 60 ∧ c ≤ k ∧ soon ≤ 1 ∧ cns < (c : Int) ∧ SO wr B b2 X long 0 u g4 soon c (k + 1) ∧ B ≤ wr.heap.size ∧ Below w.heap.size w wr) (fun _ _ _ i _ => 200 - (intOf i).toNat)
        case atStart => exact ⟨0, 0, 0, -1, -1, rfl, rfl, rfl, rfl, by omega, by omega, by omega, by omega, by omega, by omega, HSO7.out, hBW7, hB7⟩
        case round =>
          clear HSO7 hB7 hBW7
          obtain ⟨k, soon, c, lst, cns, rfl, rfl, rfl, rfl, hk, hk2, hk3, hck, hs1, hcn, hSO, hBw9, hb9⟩ := hrel
          obtain ⟨w9, rfl⟩ : ∃ x, x = wr := ⟨wr, rfl⟩
          have HSO := hide hSO
          have ts : (soon : Int) ≤ 1 := by omega
          clear hSO
          by_cases h1 : k < len
          · by_cases h2 : k < len2
            · by_cases h3 : k < 60
              ·
                obtain ⟨bd, offd, rfl, hltd, qd⟩ : ∃ bd offd, a = some ⟨bd, offd, none⟩ ∧ bd < w.heap.size ∧ w.cell? ⟨bd, offd + k, none⟩ = some (.int .i64 (dd.getD k 0)) := by
                  rcases HR.out with h | ⟨b, off, h4, h5, _, _, h6⟩
                  · omega
                  · exact ⟨b, off, h4, h5, h6 k h1⟩
                obtain ⟨bt, offt, rfl, hltt, qt⟩ : ∃ bt offt, a2 = some ⟨bt, offt, none⟩ ∧ bt < w.heap.size ∧ w.cell? ⟨bt, offt + k, none⟩ = some (.int .i64 (tt.getD k 0)) := by
                  rcases HR2.out with h | ⟨b, off, h4, h5, _, _, h6⟩
                  · omega
                  · exact ⟨b, off, h4, h5, h6 k h2⟩
                generalize dd.getD k 0 = d at qd
                generalize tt.getD k 0 = tm at qt
                have rd := (hb9.cell (p := ⟨bd, offd + k, none⟩) hltd).trans qd
                have HTM : Hid (∀ w' : World, Below w.heap.size w w' → w'.cell? ⟨bt, offt + k, none⟩ = some (.int .i64 tm)) := fun w' hB' => (hB'.cell (p := ⟨bt, offt + k, none⟩) hltt).trans qt
                clear qd qt
                by_cases d0 : d = 0
                ·
                  subst d0
                  go_wp2_with fail
                  refine (so_crash _ hBw9 HSO.out).mono ?_
                  rintro r w10 ⟨rfl, hs10, hb10⟩
                  have HS10 := hide (hs10.more (Nat.le_succ (k + 1)))
                  have hB10 : Below w.heap.size w w10 := hb9.trans (hb10.mono hBw)
                  have hZ10 : B ≤ w10.heap.size := Nat.le_trans hBw9 hb10.size
                  clear hs10 hb10 HSO
                  go_wp2
                  go_roundw
                  case rel => exact ⟨k + 1, soon, c, lst, cns, rfl, rfl, rfl, by go_num, by omega, by omega, by omega, by omega, by omega, by omega, HS10.out, hZ10, hB10⟩
                  case measure => simp [intOf] <;> omega
                ·
                  have e0 : (d == 0) = false := beq_eq_false_iff_ne.2 d0
                  by_cases d1 : d = 1
                  ·
                    subst d1
                    go_wp2_with fail
                    refine (so_turn _ hBw9 HSO.out).mono ?_
                    rintro r w10 ⟨⟨y, rfl⟩, hs10, hb10⟩
                    have HS10 := hide (hs10.more (Nat.le_succ (k + 1)))
                    have hB10 : Below w.heap.size w w10 := hb9.trans (hb10.mono hBw)
                    have hZ10 : B ≤ w10.heap.size := Nat.le_trans hBw9 hb10.size
                    clear hs10 hb10 HSO
                    go_wp2
                    go_roundw
                    case rel => exact ⟨k + 1, soon, c, lst, cns, rfl, rfl, rfl, by go_num, by omega, by omega, by omega, by omega, by omega, by omega, HS10.out, hZ10, hB10⟩
                    case measure => simp [intOf] <;> omega
                  ·
                    have e1 : (d == 1) = false := beq_eq_false_iff_ne.2 d1
                    by_cases d2 : d = 2
                    ·
                      subst d2
                      go_wp2_with fail
                      refine (so_pull _ hBw9 HSO.out).mono ?_
                      rintro r w10 ⟨⟨y, rfl⟩, hs10, hb10⟩
                      have HS10 := hide (hs10.more (Nat.le_succ (k + 1)))
                      have hB10 : Below w.heap.size w w10 := hb9.trans (hb10.mono hBw)
                      have hZ10 : B ≤ w10.heap.size := Nat.le_trans hBw9 hb10.size
                      clear hs10 hb10 HSO
                      go_wp2
                      go_roundw
                      case rel => exact ⟨k + 1, soon, c, lst, cns, rfl, rfl, rfl, by go_num, by omega, by omega, by omega, by omega, by omega, by omega, HS10.out, hZ10, hB10⟩
                      case measure => simp [intOf] <;> omega
                    ·
                      have e2 : (d == 2) = false := beq_eq_false_iff_ne.2 d2
                      by_cases d3 : d = 3
                      ·
                        subst d3
                        go_wp2_with fail
                        refine (so_ticket HU.out (by omega) _ hBw9 HSO.out).mono ?_
                        rintro r w10 ⟨⟨y, rfl⟩, hs10, hb10⟩
                        have HS10 := hide hs10
                        have hB10 : Below w.heap.size w w10 := hb9.trans (hb10.mono hBw)
                        have hZ10 : B ≤ w10.heap.size := Nat.le_trans hBw9 hb10.size
                        clear hs10 hb10 HSO
                        go_wp2
                        go_roundw
                        case rel => exact ⟨k + 1, soon, c, lst, cns, rfl, rfl, rfl, by go_num, by omega, by omega, by omega, by omega, by omega, by omega, HS10.out, hZ10, hB10⟩
                        case measure => simp [intOf] <;> omega
                      ·
                        have e3 : (d == 3) = false := beq_eq_false_iff_ne.2 d3
                        have rt := HTM.out _ hb9
                        by_cases htl : tm < lst
                        ·
                          go_wp2
                          go_roundw
                          case rel => exact ⟨k + 1, soon, c, lst, cns, rfl, rfl, rfl, by go_num, by omega, by omega, by omega, by omega, by omega, by omega, HSO.out.more (Nat.le_succ (k + 1)), hBw9, hb9⟩
                          case measure => simp [intOf] <;> omega
                        ·
                          have hsz9 := hb9.size
                          have HM := hide HSO.out.mine
                          have hXl := HM.out.lt
                          have hbt9 : bt < w9.heap.size := Nat.lt_of_lt_of_le hltt hsz9
                          have hnX : X ≠ w9.heap.size := Nat.ne_of_lt hXl
                          have hnt : bt ≠ w9.heap.size := Nat.ne_of_lt hbt9
                          have HKS : Hid (∀ w' : World, Below w9.heap.size w9 w' → w'.cell? ⟨X, 0, none⟩ = some (.int .i64 0) ∧ w'.cell? ⟨X, 1, none⟩ = some (.int .i64 0) ∧ w'.cell? ⟨X, 2, none⟩ = some (.int .i64 u) ∧ w'.cell? ⟨X, 3, none⟩ = some (.int .i64 g4) ∧ w'.cell? ⟨bt, offt + k, none⟩ = some (.int .i64 tm)) := fun w' hB' => ⟨(HM.out.below hB').cell (i := 0) rfl, (HM.out.below hB').cell (i := 1) rfl, (HM.out.below hB').cell (i := 2) rfl, (HM.out.below hB').cell (i := 3) rfl, HTM.out _ (hb9.trans (hB'.mono hsz9))⟩
                          have hrr := Below.refl w9.heap.size w9
                          have KK9 := HKS.out _ hrr
                          obtain ⟨mm0, mm1, mm2, mm3, mm4⟩ := KK9
                          have KK9 := HKS.out _ hrr
                          clear rt
                          have hXd : X < w9.drew.heap.size := hXl
                          have hbd : bt < w9.drew.heap.size := hbt9
                          obtain ⟨kd, k0, k1, k2, k3, nn, eb, er, soon', c', hOut, HC⟩ := so_helloU HU.out (by omega) w9 hBw9 HSO.out ad tm ⟨#[120]⟩ (by decide)
                          have HO := hide hOut
                          simp only [soH, soA] at HC
                          have HCC := hide HC
                          clear HC hOut
                          go_wp2_with fail
                          go_region_held3 (fun w' => w'.cell? ⟨X, 0, none⟩ = some (.int .i64 0) ∧ w'.cell? ⟨X, 1, none⟩ = some (.int .i64 0) ∧ w'.cell? ⟨X, 2, none⟩ = some (.int .i64 u) ∧ w'.cell? ⟨X, 3, none⟩ = some (.int .i64 g4) ∧ w'.cell? ⟨bt, offt + k, none⟩ = some (.int .i64 tm)) (first | with_reducible assumption | with_reducible (refine so_keepD ?_; assumption) | with_reducible (refine so_keepD ?_; refine so_keepA _ ?_ ?_ ?_ <;> assumption) | with_reducible (refine so_keepA _ ?_ ?_ ?_ <;> assumption) | with_reducible (refine so_keepA _ hXd hbd (so_keepD ?_); assumption) | with_reducible (refine so_keep hnX hnt ?_ _ _ _ _ _ _ _ _; assumption))
                            (first | (go_at_call 6; refine (HCC.out _ (by go_grown)).mono ?_; rintro e5 w10 ⟨rfl, hs10, hb10, hfr10⟩; have hB10 : Below w.heap.size w w10 := hb9.trans (hb10.mono hBw); have hZ10 : B ≤ w10.heap.size := Nat.le_trans hBw9 hb10.size; have hz10 := hb10.size; have hM10 := hs10.mine; have hX10 := hM10.lt; have hbt10 : bt < w10.heap.size := Nat.lt_of_lt_of_le hbt9 hz10; have KK : w10.cell? ⟨X, 0, none⟩ = some (.int .i64 0) ∧ w10.cell? ⟨X, 1, none⟩ = some (.int .i64 0) ∧ w10.cell? ⟨X, 2, none⟩ = some (.int .i64 u) ∧ w10.cell? ⟨X, 3, none⟩ = some (.int .i64 g4) ∧ w10.cell? ⟨bt, offt + k, none⟩ = some (.int .i64 tm) := ⟨hM10.cell (i := 0) rfl, hM10.cell (i := 1) rfl, hM10.cell (i := 2) rfl, hM10.cell (i := 3) rfl, HTM.out _ hB10⟩; have HS10 := hide hs10; have HFR := hide hfr10; (first | (have QQ := obj_cells8 (hfr10 w9.heap.size 37 [.int .i64 0, .int .i64 0, .int .i64 0, .int .i64 0, .int .i64 0, .int .i64 0, .int .i64 0, .bool false] (Nat.le_refl _) (by first | exact (ObjAt.new w9 _ _).drew | exact ObjAt.new w9 _ _ | exact (ObjAt.new w9 _ _).drewN _)).1; obtain ⟨q0, q1, q2, q3, q4, q5, q6, q7, p0, p1, p2, p3, p4, p5, p6, p7⟩ := QQ) | skip); clear hs10 hb10 hfr10 hM10))
                          ·
                            obtain ⟨W, hW⟩ : ∃ W, W = w10.alloc (.cells #[.int .i64 kd, .int .i64 k0, .int .i64 k1, .int .i64 k2, .int .i64 k3, .int .i64 0, .int .i64 nn, .bool eb] 37) := ⟨_, rfl⟩
                            have hAW : Below w10.heap.size w10 W := by rw [hW]; exact (Below.refl _ _).alloc (Nat.le_refl _) _
                            have HSW : Hid (SO W B b2 X long 0 u g4 soon' c' (k + 1)) := hide (HS10.out.below hAW)
                            have HOW : Hid (ObjAt W w10.heap.size 37 [.int .i64 kd, .int .i64 k0, .int .i64 k1, .int .i64 k2, .int .i64 k3, .int .i64 0, .int .i64 nn, .bool eb]) := by rw [hW]; exact ObjAt.new _ _ _
                            have HBW := hide (hB10.trans (hAW.mono hB10.size))
                            have hZW : B ≤ W.heap.size := by rw [hW]; simp; omega
                            have rtW := HTM.out _ HBW.out
                            rw [← hW]
                            clear HCC KK KK9 mm0 mm1 mm2 mm3 mm4 HKS HM hW HSO hrr HS10 HFR
                            have a0 := HOW.out.cell (i := 0) rfl
                            have a5 := HOW.out.cell (i := 5) rfl
                            have a6 := HOW.out.cell (i := 6) rfl
                            have a7 := HOW.out.cell (i := 7) rfl
                            rcases HO.out with ⟨c0, hc0, rfl, rfl, rfl⟩ | ⟨hkd, rfl, rfl, rfl, rfl⟩ | ⟨rfl, rfl, rfl, rfl, rfl, rfl⟩ | ⟨rfl, rfl, rfl, rfl, hs0, htu, rfl, rfl⟩
                            ·
                              have tc0 : (c0 != 0) = true := bne_iff_ne.2 hc0
                              clear hc0
                              go_wp2
                              go_roundw
                              case rel => exact ⟨k + 1, soon, c, lst, cns, rfl, rfl, rfl, by go_num, by omega, by omega, by omega, by omega, by omega, by omega, HSW.out.more (Nat.le_succ _), hZW, HBW.out⟩
                              case measure => simp [intOf] <;> omega
                            ·
                              have tkd : (kd == 1) = false := beq_eq_false_iff_ne.2 hkd
                              go_wp2
                              go_roundw
                              case rel => exact ⟨k + 1, soon, c, tm, cns, rfl, rfl, rfl, by go_num, by omega, by omega, by omega, by omega, by omega, by omega, HSW.out.more (Nat.le_succ _), hZW, HBW.out⟩
                              case measure => simp [intOf] <;> omega
                            ·
                              have hcb : connB 0 (c : Int) = true := decide_eq_true (by omega)
                              have NB : Hid (∀ W, Calls Try.prog 10 #[.agg #[.int .i64 0, .int .i64 (c : Int)]] W fun e w' => e = .returned (.tuple #[.int .i64 (connN 0 (c : Int)), .nilIface]) ∧ Below W.heap.size W w') := hide (fun W => connNumber_eq (c := 0) (by unfold connNum; rw [if_pos hcb]) W)
                              have hcN := (connN_in 0 (c : Int) hcb).1
                              clear hcb
                              generalize connN 0 (c : Int) = nm at NB hcN
                              go_wp2_with fail
                              refine (NB.out _).mono ?_
                              rintro r w12 ⟨rfl, hb12⟩
                              have HS12 := hide (HSW.out.below hb12)
                              have HO12 := hide (HOW.out.below hb12)
                              have HB12 := hide (HBW.out.trans (hb12.mono HBW.out.size))
                              have hZ12 : B ≤ w12.heap.size := Nat.le_trans hZW hb12.size
                              have rt12 := HTM.out _ HB12.out
                              clear hb12 NB HSW HOW HBW rtW a0 a5 a6 a7
                              have a0 := HO12.out.cell (i := 0) rfl
                              have a5 := HO12.out.cell (i := 5) rfl
                              have a6 := HO12.out.cell (i := 6) rfl
                              have a7 := HO12.out.cell (i := 7) rfl
                              go_wp2
                              go_roundw
                              case rel => exact ⟨k + 1, soon, c + 1, tm, c, rfl, rfl, rfl, by go_num, by omega, by omega, by omega, by omega, by omega, by omega, HS12.out.more (Nat.le_succ _), hZ12, HB12.out⟩
                              case measure => simp [intOf] <;> omega
                            ·
                              have hcb : connB 0 (c : Int) = true := decide_eq_true (by omega)
                              have NB : Hid (∀ W, Calls Try.prog 10 #[.agg #[.int .i64 0, .int .i64 (c : Int)]] W fun e w' => e = .returned (.tuple #[.int .i64 (connN 0 (c : Int)), .nilIface]) ∧ Below W.heap.size W w') := hide (fun W => connNumber_eq (c := 0) (by unfold connNum; rw [if_pos hcb]) W)
                              have hcN := (connN_in 0 (c : Int) hcb).1
                              clear hcb
                              generalize connN 0 (c : Int) = nm at NB hcN
                              go_wp2_with fail
                              refine (NB.out _).mono ?_
                              rintro r w12 ⟨rfl, hb12⟩
                              have HS12 := hide (HSW.out.below hb12)
                              have HO12 := hide (HOW.out.below hb12)
                              have HB12 := hide (HBW.out.trans (hb12.mono HBW.out.size))
                              have hZ12 : B ≤ w12.heap.size := Nat.le_trans hZW hb12.size
                              have rt12 := HTM.out _ HB12.out
                              clear hb12 NB HSW HOW HBW rtW a0 a5 a6 a7
                              have a0 := HO12.out.cell (i := 0) rfl
                              have a5 := HO12.out.cell (i := 5) rfl
                              have a6 := HO12.out.cell (i := 6) rfl
                              have a7 := HO12.out.cell (i := 7) rfl
                              go_wp2
                              go_roundw
                              case rel => exact ⟨k + 1, 1, c + 1, tm, c, rfl, rfl, by simp, by go_num, by omega, by omega, by omega, by omega, by omega, by omega, HS12.out.more (Nat.le_succ _), hZ12, HB12.out⟩
                              case measure => simp [intOf] <;> omega
                          ·
                            obtain ⟨W, hW⟩ : ∃ W, W = ((((((((w10.setCell ⟨w9.heap.size, 0, none⟩ (.int .i64 kd)).setCell ⟨w9.heap.size, 1, none⟩ (.int .i64 k0)).setCell ⟨w9.heap.size, 2, none⟩ (.int .i64 k1)).setCell ⟨w9.heap.size, 3, none⟩ (.int .i64 k2)).setCell ⟨w9.heap.size, 4, none⟩ (.int .i64 k3)).setCell ⟨w9.heap.size, 5, none⟩ (.int .i64 0)).setCell ⟨w9.heap.size, 6, none⟩ (.int .i64 nn)).setCell ⟨w9.heap.size, 7, none⟩ (.bool eb)) := ⟨_, rfl⟩
                            have HSW : Hid (SO W B b2 X long 0 u g4 soon' c' (k + 1)) := by rw [hW]; exact (HFR.out w9.heap.size 37 [.int .i64 0, .int .i64 0, .int .i64 0, .int .i64 0, .int .i64 0, .int .i64 0, .int .i64 0, .bool false] (Nat.le_refl _) (by first | exact (ObjAt.new w9 _ _).drew | exact ObjAt.new w9 _ _ | exact (ObjAt.new w9 _ _).drewN _)).2 _ _ _ _ _ _ _ _
                            have hz0 : ObjAt w10 w9.heap.size 37 [.int .i64 0, .int .i64 0, .int .i64 0, .int .i64 0, .int .i64 0, .int .i64 0, .int .i64 0, .bool false] := (HFR.out w9.heap.size 37 [.int .i64 0, .int .i64 0, .int .i64 0, .int .i64 0, .int .i64 0, .int .i64 0, .int .i64 0, .bool false] (Nat.le_refl _) (by first | exact (ObjAt.new w9 _ _).drew | exact ObjAt.new w9 _ _ | exact (ObjAt.new w9 _ _).drewN _)).1
                            have HOW : Hid (ObjAt W w9.heap.size 37 [.int .i64 kd, .int .i64 k0, .int .i64 k1, .int .i64 k2, .int .i64 k3, .int .i64 0, .int .i64 nn, .bool eb]) := by rw [hW]; exact obj_set8 hz0 _ _ _ _ _ _ _ _
                            have HBW : Hid (Below w.heap.size w W) := by rw [hW]; exact bel_set8 hB10 hsz9 _ _ _ _ _ _ _ _
                            have hZW : B ≤ W.heap.size := by rw [hW]; simpa using hZ10
                            have rtW := HTM.out _ HBW.out
                            rw [← hW]
                            clear HCC KK KK9 mm0 mm1 mm2 mm3 mm4 HKS HM hW HSO hrr HS10 HFR hz0 q0 q1 q2 q3 q4 q5 q6 q7 p0 p1 p2 p3 p4 p5 p6 p7
                            have a0 := HOW.out.cell (i := 0) rfl
                            have a5 := HOW.out.cell (i := 5) rfl
                            have a6 := HOW.out.cell (i := 6) rfl
                            have a7 := HOW.out.cell (i := 7) rfl
                            rcases HO.out with ⟨c0, hc0, rfl, rfl, rfl⟩ | ⟨hkd, rfl, rfl, rfl, rfl⟩ | ⟨rfl, rfl, rfl, rfl, rfl, rfl⟩ | ⟨rfl, rfl, rfl, rfl, hs0, htu, rfl, rfl⟩
                            ·
                              have tc0 : (c0 != 0) = true := bne_iff_ne.2 hc0
                              clear hc0
                              go_wp2
                              go_roundw
                              case rel => exact ⟨k + 1, soon, c, lst, cns, rfl, rfl, rfl, by go_num, by omega, by omega, by omega, by omega, by omega, by omega, HSW.out.more (Nat.le_succ _), hZW, HBW.out⟩
                              case measure => simp [intOf] <;> omega
                            ·
                              have tkd : (kd == 1) = false := beq_eq_false_iff_ne.2 hkd
                              go_wp2
                              go_roundw
                              case rel => exact ⟨k + 1, soon, c, tm, cns, rfl, rfl, rfl, by go_num, by omega, by omega, by omega, by omega, by omega, by omega, HSW.out.more (Nat.le_succ _), hZW, HBW.out⟩
                              case measure => simp [intOf] <;> omega
                            ·
                              have hcb : connB 0 (c : Int) = true := decide_eq_true (by omega)
                              have NB : Hid (∀ W, Calls Try.prog 10 #[.agg #[.int .i64 0, .int .i64 (c : Int)]] W fun e w' => e = .returned (.tuple #[.int .i64 (connN 0 (c : Int)), .nilIface]) ∧ Below W.heap.size W w') := hide (fun W => connNumber_eq (c := 0) (by unfold connNum; rw [if_pos hcb]) W)
                              have hcN := (connN_in 0 (c : Int) hcb).1
                              clear hcb
                              generalize connN 0 (c : Int) = nm at NB hcN
                              go_wp2_with fail
                              refine (NB.out _).mono ?_
                              rintro r w12 ⟨rfl, hb12⟩
                              have HS12 := hide (HSW.out.below hb12)
                              have HO12 := hide (HOW.out.below hb12)
                              have HB12 := hide (HBW.out.trans (hb12.mono HBW.out.size))
                              have hZ12 : B ≤ w12.heap.size := Nat.le_trans hZW hb12.size
                              have rt12 := HTM.out _ HB12.out
                              clear hb12 NB HSW HOW HBW rtW a0 a5 a6 a7
                              have a0 := HO12.out.cell (i := 0) rfl
                              have a5 := HO12.out.cell (i := 5) rfl
                              have a6 := HO12.out.cell (i := 6) rfl
                              have a7 := HO12.out.cell (i := 7) rfl
                              go_wp2
                              go_roundw
                              case rel => exact ⟨k + 1, soon, c + 1, tm, c, rfl, rfl, rfl, by go_num, by omega, by omega, by omega, by omega, by omega, by omega, HS12.out.more (Nat.le_succ _), hZ12, HB12.out⟩
                              case measure => simp [intOf] <;> omega
                            ·
                              have hcb : connB 0 (c : Int) = true := decide_eq_true (by omega)
                              have NB : Hid (∀ W, Calls Try.prog 10 #[.agg #[.int .i64 0, .int .i64 (c : Int)]] W fun e w' => e = .returned (.tuple #[.int .i64 (connN 0 (c : Int)), .nilIface]) ∧ Below W.heap.size W w') := hide (fun W => connNumber_eq (c := 0) (by unfold connNum; rw [if_pos hcb]) W)
                              have hcN := (connN_in 0 (c : Int) hcb).1
                              clear hcb
                              generalize connN 0 (c : Int) = nm at NB hcN
                              go_wp2_with fail
                              refine (NB.out _).mono ?_
                              rintro r w12 ⟨rfl, hb12⟩
                              have HS12 := hide (HSW.out.below hb12)
                              have HO12 := hide (HOW.out.below hb12)
                              have HB12 := hide (HBW.out.trans (hb12.mono HBW.out.size))
                              have hZ12 : B ≤ w12.heap.size := Nat.le_trans hZW hb12.size
                              have rt12 := HTM.out _ HB12.out
                              clear hb12 NB HSW HOW HBW rtW a0 a5 a6 a7
                              have a0 := HO12.out.cell (i := 0) rfl
                              have a5 := HO12.out.cell (i := 5) rfl
                              have a6 := HO12.out.cell (i := 6) rfl
                              have a7 := HO12.out.cell (i := 7) rfl
                              go_wp2
                              go_roundw
                              case rel => exact ⟨k + 1, 1, c + 1, tm, c, rfl, rfl, by simp, by go_num, by omega, by omega, by omega, by omega, by omega, by omega, HS12.out.more (Nat.le_succ _), hZ12, HB12.out⟩
                              case measure => simp [intOf] <;> omega
              · go_wp2
                go_ret
                exact ⟨rfl, hb9⟩
            · go_wp2
              go_ret
              exact ⟨rfl, hb9⟩
          · go_wp2
            go_ret
            exact ⟨rfl, hb9⟩
end Go.Proofs.Ytlnehoedflbifaa
