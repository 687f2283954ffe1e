/- The walk of TopKnown. -/
import Derived.Test.YtfehnfbmlomccaaTopKnownP
import Derived.Test.YtfehnfbmlomccaaTopOne
import Derived.Test.YtfehnfbmlomccaaServerFirstWalk
import Derived.Deep.Cut
import Derived.Deep.DeepCutAuto
namespace Go.Proofs.Ytfehnfbmlomccaa
open Go.RowKit

theorem ans_blankN {e k o a now li wt n : Int} {s : ByteArray} (hr : ringE e k o = 0) (ha : inB a = true) (hn : tmB now = true) (hl : tmB li = true) (hw : needsOf wt false false = (n, 0)) : ansN e k o a 0 0 0 0 0 0 0 0 s wt now li = (n, false, 0) := by
  rw [ans_blank hr ha hn hl (by rw [hw]), hw]
theorem tk_need1 {m : Nat} (h : m < 4) : needsOf (m : Int) false false = (1, 0) := by
  unfold needsOf
  rw [if_neg (by omega), if_neg (by omega), if_neg (by omega)]
theorem tk_need0 {m : Nat} (h : m = 4) : needsOf (m : Int) false false = (0, 0) := by subst h; decide
theorem tk_off {zs : List (Int × Int)} {c : Nat} (h : ∀ x ∈ zs, x.2 < (c : Int)) (hl : zs.length < 8) (hc : c < 4096) : offE zs 0 (c : Int) = 0 := by
  unfold offE
  rw [if_neg (by rw [tk_right hc]; simp), if_neg, if_neg (by omega)]
  intro ha
  obtain ⟨x, hx, hp⟩ := List.any_eq_true.1 ha
  have := h x hx
  simp [cnP] at hp
  omega
theorem tk_snoc {zs ns : List (Int × Int)} {c : Nat} (h : ∀ x ∈ zs, x.2 < (c : Int)) (hn : zs ++ [(0, (c : Int))] = ns) : ∀ x ∈ ns, x.2 < ((c + 1 : Nat) : Int) := by
  intro x hx
  rw [← hn] at hx
  rcases List.mem_append.1 hx with hx | hx
  · have := h x hx; omega
  · simp at hx; subst hx; show (c : Int) < _; omega
theorem tk_reset2 {c : Nat} (hc : c < 4096) {x c2 : Int} (h : (c2 = 0 ∧ 0 ≤ x ∧ x < 999983) ∨ (c2 = 1 ∧ (x < 0 ∨ 999983 ≤ x))) : resetN x 0 (c : Int) = ((resetN x 0 (c : Int)).1, c2) := by
  rcases h with ⟨rfl, h⟩ | ⟨rfl, h⟩
  · rw [tk_tag hc (inB_true.2 h)]
  · rw [tk_tag_no (inB_false.2 (by omega))]
theorem tk_route2 {c : Nat} (hc : c < 4096) {sh c3 : Int} (h : (c3 = 0 ∧ 1 ≤ sh ∧ sh ≤ 16) ∨ (c3 = 1 ∧ (sh < 1 ∨ 16 < sh))) : routeN (connN 0 (c : Int)) sh = (0, c3) := by
  rcases h with ⟨rfl, h⟩ | ⟨rfl, h⟩
  · exact tk_route hc h.1 h.2
  · exact tk_route_no h
set_option maxRecDepth 100000 in
set_option maxHeartbeats 32000000 in
theorem walkTopKnown (w : World) (seed : Int) (_w0 : (Lit.int .i64 seed).wf = true) (x : Int) (_w1 : (Lit.int .i64 x).wf = true) (a : Option Addr) (len cap : Nat) (zz : List Int) (_hl : len ≤ cap) (_hc : cap ≤ maxLen) (hr : IntRow w a len zz) (sh : Int) (_w3 : (Lit.int .i64 sh).wf = true) :
    Calls Try.prog 3 #[.int .i64 seed, .int .i64 x, .slice a len cap, .int .i64 sh] w fun r w' => r = .returned (.bool true) ∧ Below w.heap.size w w' := by
  have hm : len ≤ maxLen := hr.2.1
  unfold maxLen at hm
  have HR := hide hr.split
  clear _w0 _w1 _w3 _hl _hc hr
  cases hs : inB seed
  · have SN := hide (fun W => sNew_bad1 (li := 10) hs W)
    clear hs
    go_enter Try.func3, Try.ntmps3
    go_wp2_with fail
    refine (topOne _).mono ?_
    rintro r w1 ⟨rfl, hb1⟩
    go_wp2_with fail
    refine (SN.out _).mono ?_
    rintro r w2 ⟨rfl, hb2⟩
    go_wp2
    go_ret
    exact ⟨rfl, hb1.trans (hb2.mono hb1.size)⟩
  · have SN := hide (fun W => sNew_ok (li := 10) hs (by decide) W)
    have hkk := ringNew_key hs
    generalize tagOf seed [0] = K at SN hkk
    have HKK := hide hkk
    obtain ⟨i0, hi0, hz0, hz1, hz2⟩ := info_parts Try.infoInt
    have Hi0 := hide hi0
    have Hz0 := hide hz0
    have Hz1 := hide hz1
    have Hz2 := hide hz2
    clear hs hkk hi0 hz0 hz1 hz2
    go_enter Try.func3, Try.ntmps3
    go_wp2_with fail
    refine (topOne _).mono ?_
    rintro r w1 ⟨rfl, hb1⟩
    go_wp2_with fail
    refine (SN.out _).mono ?_
    rintro r w2 ⟨b, q, bi, bb, bv, rfl, hS2, _, _, hlt, hb2⟩
    have hB2 : Below w.heap.size w w2 := hb1.trans (hb2.mono hb1.size)
    have hs1 := hb1.size
    have hT2 : TK w2 w.heap.size b q bi bv K ((0 : Nat) : Int) (.slice none 0 0) [] 0 0 (.slice none 0 0) (.slice none 0 0) (tkN 0) (tkT x 0) :=
      { sq := hS2, rn := World.ownsRow_nil _ _ _ _, rt := World.ownsRow_nil _ _ _ _, hb := by omega, hq := by omega, hv := fun g hg => by simp [Value.ownBlock] at hg, sn := fun g hg => by simp [Value.ownBlock] at hg, st := fun g hg => by simp [Value.ownBlock] at hg }
    have HT2 := hide hT2
    clear hS2 hb1 hb2 hlt SN hT2 hs1
    go_wp2_with fail
    go_loopw [12, 13, 14] (fun vn vt i wr => ∃ (k c : Nat) (v : Value) (zs : List (Int × Int)), i = .int .i64 k ∧ k ≤ len ∧ k ≤ 30 ∧ c ≤ k ∧ zs.length ≤ 4 ∧ Hid (∀ x ∈ zs, x.2 < (c : Int)) ∧ TK wr w.heap.size b q bi bv K (c : Int) v zs c c vn vt (tkN c) (tkT x c) ∧ Below w.heap.size w wr) (fun _ _ i _ => 100 - (intOf i).toNat)
    case atStart => exact ⟨0, 0, _, [], rfl, by omega, by omega, by omega, by simp, hide (fun x hx => by simp at hx), HT2.out, hB2⟩
    case round =>
      obtain ⟨k, c, v, zs, rfl, hk, hk3, hck, hz4, HZ, hT, hb9⟩ := hrel
      obtain ⟨w9, rfl⟩ : ∃ x, x = wr := ⟨wr, rfl⟩
      have HT := hide hT
      obtain ⟨an, cn, rfl⟩ := own_sl hT.rn
      obtain ⟨at_, ct, rfl⟩ := own_sl hT.rt
      have hsz := hb9.size
      clear hT HT2
      by_cases h1 : k < len
      · by_cases h2 : k < 30
        · obtain ⟨b2, off2, rfl, hlt2, q0⟩ : ∃ b2 off2, a = some ⟨b2, off2, none⟩ ∧ b2 < w.heap.size ∧ w.cell? ⟨b2, off2 + k, none⟩ = some (.int .i64 (zz.getD k 0)) := by
            rcases HR.out with h | ⟨b2, off2, h4, h5, _, _, h6⟩
            · omega
            · exact ⟨b2, off2, h4, h5, h6 k h1⟩
          generalize zz.getD k 0 = ad at q0
          have r0 := (hb9.cell (p := ⟨b2, off2 + k, none⟩) hlt2).trans q0
          clear q0
          cases ha : inB ad
          ·
            have HE := hide (fun W (h : SQ W b 0 K 0 10 q bi bv (c : Int) v zs) => sHello_err (s := ByteArray.empty) (now := 5) (by decide) (ans_blank_bad (a := ad) (now := 5) (li := 10) (s := ByteArray.empty) (wt := (zs.length : Int)) HKK.out (by rw [ha]; rfl)) (by decide) W h)
            clear ha
            go_wp2_with fail
            refine (HE.out _ HT.out.sq).mono ?_
            rintro r w10 ⟨rfl, hb10⟩
            have hB10 : Below w.heap.size w w10 := hb9.trans (hb10.mono hsz)
            obtain ⟨W11, hW11⟩ : ∃ W, W = w10.alloc (.cells #[.int .i64 0, .int .i64 0, .int .i64 0, .int .i64 0, .int .i64 0, .int .i64 0, .int .i64 0, .bool false] 34) := ⟨_, rfl⟩
            have hA11 : Below w10.heap.size w10 W11 := by rw [hW11]; exact (Below.refl _ _).alloc (Nat.le_refl _) _
            have HO11 : Hid (ObjAt W11 w10.heap.size 34 [.int .i64 0, .int .i64 0, .int .i64 0, .int .i64 0, .int .i64 0, .int .i64 0, .int .i64 0, .bool false]) := by rw [hW11]; exact ObjAt.new _ _ _
            have HT11 := hide ((HT.out.below hb10).below hA11)
            have hB11 : Below w.heap.size w W11 := hB10.trans (hA11.mono hB10.size)
            clear hb10 HT HE HO11 hA11 r0
            rcases zs with _ | ⟨y, zl⟩
            ·
              go_wp2_with fail
              rw [← hW11]
              clear hW11
              refine (sPull_none _ HT11.out.sq).mono ?_
              rintro r w20 ⟨rfl, hb20⟩
              have hB20 : Below w.heap.size w w20 := hB11.trans (hb20.mono hB11.size)
              have HT20 := hide (HT11.out.below hb20)
              clear hb20
              go_wp2
              go_roundw
              case rel => exact ⟨k + 1, c, _, _, by go_num, by omega, by omega, by omega, by simp, HZ, HT20.out, hB20⟩
              case measure => simp [intOf] <;> omega
            ·
              have hz4' : zl.length ≤ 4 := by simp at hz4; omega
              go_wp2_with fail
              rw [← hW11]
              clear hW11
              refine (sPull_one _ HT11.out.sq).mono ?_
              rintro r w20 ⟨rfl, v20, hs20, hr20, hk20⟩
              have hk20' := hk20.mono (S' := b :: qS q v) (fun y hy => List.mem_cons_of_mem _ hy)
              have hB20 : Below w.heap.size w w20 := HT11.out.bel hB11 hB11.size hk20'
              have HT20 := hide (HT11.out.queue hB11.size hs20 hr20 hk20')
              have HZ20 : Hid (∀ x ∈ zl, x.2 < (c : Int)) := hide (fun y hy => HZ.out y (List.mem_cons_of_mem _ hy))
              clear hs20 hr20 hk20 hk20'
              go_wp2
              go_roundw
              case rel => exact ⟨k + 1, c, _, _, by go_num, by omega, by omega, by omega, hz4', HZ20, HT20.out, hB20⟩
              case measure => simp [intOf] <;> omega
          ·
            by_cases h4 : zs.length = 4
            ·
              have HE := hide (fun W (h : SQ W b 0 K 0 10 q bi bv (c : Int) v zs) => sHello_retry (s := ByteArray.empty) (now := 5) (by decide) (ans_blankN (a := ad) (now := 5) (li := 10) (s := ByteArray.empty) HKK.out ha (by decide) (by decide) (tk_need0 h4)) HKK.out ha (by decide) W h)
              generalize tagOf K [1, ad, 5] = tg at HE
              clear ha
              go_wp2_with fail
              refine (HE.out _ HT.out.sq).mono ?_
              rintro r w10 ⟨rfl, hb10⟩
              have hB10 : Below w.heap.size w w10 := hb9.trans (hb10.mono hsz)
              obtain ⟨W11, hW11⟩ : ∃ W, W = w10.alloc (.cells #[.int .i64 0, .int .i64 0, .int .i64 ad, .int .i64 5, .int .i64 tg, .int .i64 0, .int .i64 0, .bool false] 34) := ⟨_, rfl⟩
              have hA11 : Below w10.heap.size w10 W11 := by rw [hW11]; exact (Below.refl _ _).alloc (Nat.le_refl _) _
              have HO11 : Hid (ObjAt W11 w10.heap.size 34 [.int .i64 0, .int .i64 0, .int .i64 ad, .int .i64 5, .int .i64 tg, .int .i64 0, .int .i64 0, .bool false]) := by rw [hW11]; exact ObjAt.new _ _ _
              have HT11 := hide ((HT.out.below hb10).below hA11)
              have hB11 : Below w.heap.size w W11 := hB10.trans (hA11.mono hB10.size)
              have y0 := HO11.out.cell (i := 0) rfl
              clear hb10 HT HE HO11 hA11 r0
              rcases zs with _ | ⟨y, zl⟩
              · simp at h4
              ·
                have hz4' : zl.length ≤ 4 := by simp at hz4; omega
                clear h4
                go_upto_region 12 with (fail)
                rw [← hW11]
                clear hW11
                go_wp2_with fail
                refine (sPull_one _ HT11.out.sq).mono ?_
                rintro r w20 ⟨rfl, v20, hs20, hr20, hk20⟩
                have hk20' := hk20.mono (S' := b :: qS q v) (fun y hy => List.mem_cons_of_mem _ hy)
                have hB20 : Below w.heap.size w w20 := HT11.out.bel hB11 hB11.size hk20'
                have HT20 := hide (HT11.out.queue hB11.size hs20 hr20 hk20')
                have HZ20 : Hid (∀ x ∈ zl, x.2 < (c : Int)) := hide (fun y hy => HZ.out y (List.mem_cons_of_mem _ hy))
                clear hs20 hr20 hk20 hk20'
                go_wp2
                go_roundw
                case rel => exact ⟨k + 1, c, _, _, by go_num, by omega, by omega, by omega, hz4', HZ20, HT20.out, hB20⟩
                case measure => simp [intOf] <;> omega
            ·
              have h3 : zs.length < 4 := by omega
              obtain ⟨ns, hns⟩ : ∃ ns, zs ++ [(0, (c : Int))] = ns := ⟨_, rfl⟩
              have hn4 : ns.length ≤ 4 := by rw [← hns]; simp; omega
              have HZ2 := hide (tk_snoc HZ.out hns)
              have HE := hide (fun W (h : SQ W b 0 K 0 10 q bi bv (c : Int) v zs) => sHello_wok (s := ByteArray.empty) (now := 5) (by decide) (ans_blankN (a := ad) (now := 5) (li := 10) (s := ByteArray.empty) HKK.out ha (by decide) (by decide) (tk_need1 h3)) hns (tk_off HZ.out (by omega) (by omega)) (by omega) W h)
              have hcm : c < 4096 := by omega
              have NB : Hid (∀ W, Calls Try.prog 10 #[.agg #[.int .i64 0, .int .i64 (c : Int)]] W fun e w' => e = .returned (.tuple #[.int .i64 (connN 0 (c : Int)), .nilIface]) ∧ Below W.heap.size W w') := hide (fun W => connNumber_eq (c := 0) (tk_num hcm) W)
              obtain ⟨n, hn⟩ : ∃ n, connN 0 (c : Int) = n := ⟨_, rfl⟩
              rw [hn] at NB
              have HN := hide hn
              clear ha hns h3 h4 hn
              go_wp2_with fail
              refine (HE.out _ HT.out.sq).mono ?_
              rintro r w10 ⟨rfl, v10, hs10, hr10, hk10⟩
              have hB10 : Below w.heap.size w w10 := HT.out.bel hb9 hsz hk10
              have HT10 := hide (HT.out.queue hsz hs10 hr10 hk10)
              obtain ⟨W11, hW11⟩ : ∃ W, W = w10.alloc (.cells #[.int .i64 1, .int .i64 0, .int .i64 0, .int .i64 0, .int .i64 0, .int .i64 0, .int .i64 (c : Int), .bool false] 34) := ⟨_, rfl⟩
              have hA11 : Below w10.heap.size w10 W11 := by rw [hW11]; exact (Below.refl _ _).alloc (Nat.le_refl _) _
              have HO11 : Hid (ObjAt W11 w10.heap.size 34 [.int .i64 1, .int .i64 0, .int .i64 0, .int .i64 0, .int .i64 0, .int .i64 0, .int .i64 (c : Int), .bool false]) := by rw [hW11]; exact ObjAt.new _ _ _
              have HT11 := hide (HT10.out.below hA11)
              have hB11 : Below w.heap.size w W11 := hB10.trans (hA11.mono hB10.size)
              have y0 := HO11.out.cell (i := 0) rfl
              have y5 := HO11.out.cell (i := 5) rfl
              have y6 := HO11.out.cell (i := 6) rfl
              clear hs10 hr10 hk10 HT HE hA11 r0 HT10
              go_upto_region 12 with (fail)
              rw [← hW11]
              clear hW11
              go_wp2_with fail
              refine (NB.out _).mono ?_
              rintro r w12 ⟨rfl, hb12⟩
              have hB12 : Below w.heap.size w w12 := hB11.trans (hb12.mono hB11.size)
              have HT12 := hide (HT11.out.below hb12)
              have HO12 := hide (HO11.out.below hb12)
              have z5 := HO12.out.cell (i := 5) rfl
              have z6 := HO12.out.cell (i := 6) rfl
              clear hb12 y0 y5 y6 HO11 HT11 NB
              obtain ⟨t, ht⟩ : ∃ t, (resetN x 0 (c : Int)).1 = t := ⟨_, rfl⟩
              have HTT := hide ht
              clear ht
              obtain ⟨c2, HC2⟩ : ∃ c2 : Int, Hid ((c2 = 0 ∧ 0 ≤ x ∧ x < 999983) ∨ (c2 = 1 ∧ (x < 0 ∨ 999983 ≤ x))) := by
                by_cases h : 0 ≤ x ∧ x < 999983
                · exact ⟨0, hide (.inl ⟨rfl, h⟩)⟩
                · exact ⟨1, hide (.inr ⟨rfl, by omega⟩)⟩
              obtain ⟨c3, HC3⟩ : ∃ c3 : Int, Hid ((c3 = 0 ∧ 1 ≤ sh ∧ sh ≤ 16) ∨ (c3 = 1 ∧ (sh < 1 ∨ 16 < sh))) := by
                by_cases h : 1 ≤ sh ∧ sh ≤ 16
                · exact ⟨0, hide (.inl ⟨rfl, h⟩)⟩
                · exact ⟨1, hide (.inr ⟨rfl, by omega⟩)⟩
              have RS : Hid (∀ W, Calls Try.prog 11 #[.int .i64 x, .agg #[.int .i64 0, .int .i64 (c : Int)]] W fun e w' => e = .returned (.tuple #[.int .i64 t, errV c2]) ∧ Below W.heap.size W w') := hide (fun W => resetOf_eq (by rw [← HTT.out]; exact tk_reset2 hcm HC2.out) W)
              have RT : Hid (∀ W, Calls Try.prog 12 #[.int .i64 n, .int .i64 sh] W fun e w' => e = .returned (.tuple #[.int .i64 0, errV c3]) ∧ Below W.heap.size W w') := hide (fun W => connRoute_eq (by rw [← HN.out]; exact tk_route2 hcm HC3.out) W)
              go_wp2_with fail
              refine (RS.out _).mono ?_
              rintro r w13 ⟨rfl, hb13⟩
              have hB13 : Below w.heap.size w w13 := hB12.trans (hb13.mono hB12.size)
              have HT13 := hide (HT12.out.below hb13)
              clear hb13 z5 z6 HO12 HT12 RS
              go_wp2_with fail
              refine (RT.out _).mono ?_
              rintro r w14 ⟨rfl, hb14⟩
              have hB14 : Below w.heap.size w w14 := hB13.trans (hb14.mono hB13.size)
              have HT14 := hide (HT13.out.below hb14)
              clear hb14 HT13 RT
              go_upto_region 17 with (fail)
              go_cut [109] (fun fv wx => fv = .bool false ∧ wx = w14)
              case first =>
                by_cases hx1 : x < 0
                ·
                  by_cases hh1 : sh < 1
                  ·
                    obtain rfl : c2 = 1 := by have := HC2.out; omega
                    obtain rfl : c3 = 1 := by have := HC3.out; omega
                    go_wp2
                    go_meet
                    case rel => exact ⟨by first | rfl | (simp; omega) | (congr 1; simp; omega), rfl⟩
                  · by_cases hh2 : 16 < sh
                    ·
                      obtain rfl : c2 = 1 := by have := HC2.out; omega
                      obtain rfl : c3 = 1 := by have := HC3.out; omega
                      go_wp2
                      go_meet
                      case rel => exact ⟨by first | rfl | (simp; omega) | (congr 1; simp; omega), rfl⟩
                    ·
                      obtain rfl : c2 = 1 := by have := HC2.out; omega
                      obtain rfl : c3 = 0 := by have := HC3.out; omega
                      go_wp2
                      go_meet
                      case rel => exact ⟨by first | rfl | (simp; omega) | (congr 1; simp; omega), rfl⟩
                · by_cases hx2 : 999982 < x
                  ·
                    by_cases hh1 : sh < 1
                    ·
                      obtain rfl : c2 = 1 := by have := HC2.out; omega
                      obtain rfl : c3 = 1 := by have := HC3.out; omega
                      go_wp2
                      go_meet
                      case rel => exact ⟨by first | rfl | (simp; omega) | (congr 1; simp; omega), rfl⟩
                    · by_cases hh2 : 16 < sh
                      ·
                        obtain rfl : c2 = 1 := by have := HC2.out; omega
                        obtain rfl : c3 = 1 := by have := HC3.out; omega
                        go_wp2
                        go_meet
                        case rel => exact ⟨by first | rfl | (simp; omega) | (congr 1; simp; omega), rfl⟩
                      ·
                        obtain rfl : c2 = 1 := by have := HC2.out; omega
                        obtain rfl : c3 = 0 := by have := HC3.out; omega
                        go_wp2
                        go_meet
                        case rel => exact ⟨by first | rfl | (simp; omega) | (congr 1; simp; omega), rfl⟩
                  ·
                    by_cases hh1 : sh < 1
                    ·
                      obtain rfl : c2 = 0 := by have := HC2.out; omega
                      obtain rfl : c3 = 1 := by have := HC3.out; omega
                      go_wp2
                      go_meet
                      case rel => exact ⟨by first | rfl | (simp; omega) | (congr 1; simp; omega), rfl⟩
                    · by_cases hh2 : 16 < sh
                      ·
                        obtain rfl : c2 = 0 := by have := HC2.out; omega
                        obtain rfl : c3 = 1 := by have := HC3.out; omega
                        go_wp2
                        go_meet
                        case rel => exact ⟨by first | rfl | (simp; omega) | (congr 1; simp; omega), rfl⟩
                      ·
                        obtain rfl : c2 = 0 := by have := HC2.out; omega
                        obtain rfl : c3 = 0 := by have := HC3.out; omega
                        go_wp2
                        go_meet
                        case rel => exact ⟨by first | rfl | (simp; omega) | (congr 1; simp; omega), rfl⟩
              case rest =>
                obtain ⟨rfl, hcut1⟩ := hcut
                have hcut' := hcut1.symm
                clear hcut1
                subst hcut'
                go_wp2_with fail
                go_loopw [23] (fun jv ww => ∃ j : Nat, jv = .int .i64 j ∧ j ≤ c ∧ ww = w14) (fun jv _ => 100 - (intOf jv).toNat)
                case atStart => exact ⟨0, rfl, by omega, rfl⟩
                case round =>
                  obtain ⟨j, rfl, hj, hww⟩ := hrel
                  have hww' := hww.symm
                  clear hww
                  subst hww'
                  by_cases hjc : j < c
                  ·
                    have hrn := HT14.out.rn
                    obtain ⟨gn, capn, hve, _, _, _⟩ := own_form hrn (by omega)
                    simp only [Value.slice.injEq] at hve
                    obtain ⟨rfl, _, rfl⟩ := hve
                    have e1 := (World.ownsRow.cellAt hrn j (by omega)).trans (tkN_at hjc)
                    have t1 : (connN 0 (j : Int) == n) = false := beq_eq_false_iff_ne.2 (by rw [← HN.out]; exact tk_ne hjc hcm)
                    generalize connN 0 (j : Int) = nj at e1 t1
                    have hrt := HT14.out.rt
                    obtain ⟨gt, capt, hve2, _, _, _⟩ := own_form hrt (by omega)
                    simp only [Value.slice.injEq] at hve2
                    obtain ⟨rfl, _, rfl⟩ := hve2
                    have e2 := (World.ownsRow.cellAt hrt j (by omega)).trans (tkT_at hjc)
                    have HTJ : Hid (inB x = true → ((resetN x 0 (j : Int)).1 == t) = false) := hide (fun hxi => beq_eq_false_iff_ne.2 (by rw [← HTT.out]; exact tk_tne hjc hcm hxi))
                    generalize (resetN x 0 (j : Int)).1 = tj at e2 HTJ
                    clear hrt hrn
                    by_cases hc2 : c2 = 0
                    ·
                      have t2 := HTJ.out (inB_true.2 (by have := HC2.out; omega))
                      have tc2 : (c2 == 0) = true := by simp [hc2]
                      clear hc2
                      go_wp2
                      go_roundw
                      case rel => exact ⟨j + 1, by go_num, by omega, by first | rfl | trivial⟩
                      case measure => simp [intOf] <;> omega
                    ·
                      have tc2 : (c2 == 0) = false := beq_eq_false_iff_ne.2 hc2
                      clear hc2
                      go_wp2
                      go_roundw
                      case rel => exact ⟨j + 1, by go_num, by omega, by first | rfl | trivial⟩
                      case measure => simp [intOf] <;> omega
                  ·
                    obtain rfl : j = c := by omega
                    have HA14 := hide ((Below.refl _ _).alloc (Nat.le_refl _) (.cells #[.int .i64 n] 3) : Below w14.heap.size w14 _)
                    have HTA := hide (HT14.out.below HA14.out)
                    have hs14 := hB14.size
                    go_wp2_with (first | (at_builtin; refine wpList_append_lies _ rfl _ _ 22 rfl w.heap.size 3 i0 _ 1 8 Try.underlying22 Hi0.out Hz0.out Hz1.out Hz2.out rfl (by decide) _ j (tkN j) rfl HTA.out.rn ⟨w14.heap.size, 0, none⟩ 1 1 [.int .i64 n] rfl rfl (by intro j' u hu; match j', hu with | 0, hu => (simp at hu; subst hu; simp [Addr.add])) (by intro u hu; simp at hu; subst hu; rfl) (by decide) (by unfold maxLen; omega) (by omega) (by have := HA14.out.size; omega) _ rfl ?_))
                    intro g1 cap1 w15 hown15 hg15 hat15 hlt15
                    have hT15 := HTA.out.pushn hg15 (by have q := hown15; rw [← HN.out, tkN_succ] at q; exact q) (fun g hg => by
                      rw [show (Value.slice (some ⟨g1, 0, none⟩) (j + 1) cap1).ownBlock = some g1 from rfl] at hg
                      obtain rfl := Option.some.inj hg
                      exact hat15.imp id (fun e => by simp; omega))
                    have HT15 := hide hT15
                    have HB15 := hide (grown_below (hB14.trans (HA14.out.mono hs14)) hg15 (fun g hg => (own_lt HTA.out.rn g hg).1) (by have := HA14.out.size; omega))
                    clear hown15 hg15 hat15 hlt15 hT15 HTA HT14
                    have HA15 := hide ((Below.refl _ _).alloc (Nat.le_refl _) (.cells #[.int .i64 t] 3) : Below w15.heap.size w15 _)
                    have HTB := hide (HT15.out.below HA15.out)
                    have hs15 := HB15.out.size
                    go_wp2_with (first | (at_builtin; refine wpList_append_lies _ rfl _ _ 22 rfl w.heap.size 3 i0 _ 1 8 Try.underlying22 Hi0.out Hz0.out Hz1.out Hz2.out rfl (by decide) _ j (tkT x j) rfl HTB.out.rt ⟨w15.heap.size, 0, none⟩ 1 1 [.int .i64 t] rfl rfl (by intro j' u hu; match j', hu with | 0, hu => (simp at hu; subst hu; simp [Addr.add])) (by intro u hu; simp at hu; subst hu; rfl) (by decide) (by unfold maxLen; omega) (by omega) (by have := HA15.out.size; omega) _ rfl ?_))
                    intro g2 cap2 w16 hown16 hg16 hat16 hlt16
                    have hT16 := HTB.out.pusht hg16 (by have q := hown16; rw [← HTT.out, tkT_succ] at q; exact q) (fun g hg => by
                      rw [show (Value.slice (some ⟨g2, 0, none⟩) (j + 1) cap2).ownBlock = some g2 from rfl] at hg
                      obtain rfl := Option.some.inj hg
                      exact hat16.imp id (fun e => by simp; omega))
                    have HT16 := hide hT16
                    have HB16 := hide (grown_below (HB15.out.trans (HA15.out.mono hs15)) hg16 (fun g hg => (own_lt HTB.out.rt g hg).1) (by have := HA15.out.size; omega))
                    clear hown16 hg16 hat16 hlt16 hT16 HTB HT15
                    go_wp2
                    go_roundw
                    case rel => exact ⟨k + 1, j + 1, v10, ns, by go_num, by omega, by omega, by omega, hn4, HZ2, by exact_mod_cast HT16.out, HB16.out⟩
                    case measure => simp [intOf] <;> omega
        · go_wp2
          go_ret
          exact ⟨rfl, hb9⟩
      · go_wp2
        go_ret
        exact ⟨rfl, hb9⟩
end Go.Proofs.Ytfehnfbmlomccaa
