/- The walk of TopReplay. -/
import Derived.Test.YtgmljcpeklpniaaDoorReplayP
import Derived.Test.YtgmljcpeklpniaaDoorTopOne
import Derived.Test.YtgmljcpeklpniaaDoorTopReplayProofM42
import Derived.Test.YtgmljcpeklpniaaDoorRingNew
import Derived.Test.YtgmljcpeklpniaaDoorTickMade
import Derived.Test.YtgmljcpeklpniaaDoorOpen
import Derived.Deep.Cut
namespace Go.Proofs.YtgmljcpeklpniaaDoor
open Go.RowKit

theorem lgAll {b : Nat} {v : Value} {zs : List (Int × Int)} {s : ByteArray} {many safe left : Int} {st : Bool} (w : World) (h : LG w b v zs s many safe left st) :
    Calls Tryd.prog 11 #[.pointer (some ⟨b, 0, none⟩)] w fun e w' => ∃ v', e = .returned v' ∧ PSl w' v' zs ∧ Below w.heap.size w w' := by
  have q0 := ObjAt.cell h.1 (i := 0) rfl
  have hl := h.2.1.1
  have C := hide (spClone v zs w h.2.1)
  clear h
  go_enter Tryd.func11, Tryd.ntmps11
  go_wp2_with fail
  refine C.out.mono ?_
  rintro e w1 ⟨v', rfl, hown, hb1⟩
  have HP := hide (own_psl hown hl)
  clear hown
  go_wp2
  go_returns
  exact ⟨_, rfl, HP.out, hb1⟩
theorem rpIssNew (W : World) : Calls Tryd.prog 16 #[] W fun e w' => ∃ bi bb, e = .returned (.pointer (some ⟨bi, 0, none⟩)) ∧ (W.heap.size ≤ bb ∧ W.heap.size ≤ bi) ∧ (bb < w'.heap.size ∧ bi < w'.heap.size) ∧ IssAt w' bi bb 0 0 0 ∧ Below W.heap.size W w' :=
  (issueNew W).mono fun _ _ ⟨h1, h2, h3⟩ => ⟨_, _, h1, ⟨Nat.le_refl _, by omega⟩, ⟨h2.2.1.lt, h2.1.lt⟩, h2, h3⟩
theorem blk8 {n m : Int} (h0 : 0 ≤ n) (h1 : n ≤ m) (h2 : m ≤ 992) : ∃ m', blkNext n m = (n, 0, n + 1, m') ∧ n + 1 ≤ m' ∧ m' ≤ m + 8 := by
  unfold blkNext
  by_cases e : n = m
  · exact ⟨m + 8, by rw [if_pos e, if_neg (by omega)], by omega, by omega⟩
  · exact ⟨m, by rw [if_neg e], by omega, by omega⟩
/-- the numbers that were told, all below n -/
def rpL (ls : List Int) (n : Int) : Prop := (∀ x ∈ ls, 0 ≤ x ∧ x < n) ∧ ls.Nodup
theorem rpL.up {ls : List Int} {n m : Int} (h : rpL ls n) (hm : n ≤ m) : rpL ls m := ⟨fun x hx => by have := h.1 x hx; omega, h.2⟩
theorem rpL.add {ls : List Int} {n : Int} (h : rpL ls n) (h0 : 0 ≤ n) : rpL (ls ++ [n]) (n + 1) :=
  ⟨fun x hx => by
    rcases List.mem_append.1 hx with hx | hx
    · have := h.1 x hx; omega
    · simp at hx; omega, nodup_snoc h.2 (fun hx => by have := h.1 n hx; omega)⟩
theorem rp_any (ts : List Int) (j : Nat) (hj : j < ts.length) (n : Int) : ((ts.take (j + 1)).any (· == n)) = ((ts.take j).any (· == n) || (ts.getD j 0 == n)) := by
  rw [List.take_succ_eq_append_getElem hj, List.any_append]
  simp [List.getD, List.getElem?_eq_getElem hj]
theorem rp_mem (ts : List Int) (n : Int) : ts.any (· == n) = decide (n ∈ ts) := by
  by_cases h : n ∈ ts
  · rw [decide_eq_true h, List.any_eq_true]; exact ⟨n, h, by simp⟩
  · rw [decide_eq_false h, List.any_eq_false]
    intro x hx e
    exact h ((beq_iff_eq.1 e) ▸ hx)
theorem rp_snoc {w : World} {base m : Nat} {e : TypeId} {v : Value} {ts : List Int} {n : Int} (h : w.ownsRow base e 1 v m (ts.map (Value.int .i64) ++ [.int .i64 n])) : w.ownsRow base e 1 v m ((ts ++ [n]).map (Value.int .i64)) := by
  simpa using h
set_option maxRecDepth 100000 in
set_option maxHeartbeats 16000000 in
theorem walkTopReplay (w : World) (a : Option Addr) (len cap : Nat) (dd : List Int) (_hl : len ≤ cap) (_hc : cap ≤ maxLen) (hr : IntRow w a len dd) (a2 : Option Addr) (len2 cap2 : Nat) (oo : List Int) (_hl2 : len2 ≤ cap2) (_hc2 : cap2 ≤ maxLen) (hr2 : IntRow w a2 len2 oo) (hE : ErrT w) (hT : TabW w) :
    Calls Tryd.prog 4 #[.slice a len cap, .slice a2 len2 cap2] w fun r w' => r = .returned (.bool true) ∧ Below w.heap.size w w' := by
  have hm : len ≤ maxLen := hr.2.1
  have hm2 : len2 ≤ maxLen := hr2.2.1
  unfold maxLen at hm hm2
  have HR := hide hr.split
  have HR2 := hide hr2.split
  have HE := hide (fun (c : Int) W (hb : Below w.heap.size w W) => error_any c 7 W (hE.below hb hE.pos))
  have HT := hide (fun W (hb : Below w.heap.size w W) => hT.next hb)
  clear hr hr2 _hl _hc _hl2 _hc2 hE hT
  have RN := hide (fun W => ringNew_ok (seed := 3) (by decide) W)
  have hk := ringNew_key (seed := 3) (by decide)
  generalize tagOf 3 [0] = K at RN hk
  have IS := hide (fun (b bb : Nat) (n m m' many : Int) (h0 : 0 ≤ n) (h1 : n ≤ m) (h2 : m ≤ 1000) (hbn : blkNext n m = (n, 0, n + 1, m')) (hmm : 0 ≤ many ∧ many ≤ 100000) (W : World) (h : IssAt W b bb n m many) => issue_ok b bb 0 K 0 50 n m n (n + 1) m' many W h hk (by decide) h0 h1 h2 hbn hmm)
  obtain ⟨i0, hi0, hz0, hz1, hz2⟩ := info_parts Tryd.infoInt
  have Hi0 := hide hi0
  have Hz0 := hide hz0
  have Hz1 := hide hz1
  have Hz2 := hide hz2
  clear hi0 hz0 hz1 hz2 hk
  go_enter Tryd.func4, Tryd.ntmps4
  go_wp2_with fail
  refine (topOne _).mono ?_
  rintro r w1 ⟨rfl, hb1⟩
  go_wp2_with fail
  refine (RN.out _).mono ?_
  rintro r w2 ⟨rfl, hb2⟩
  have hB2 : Below w.heap.size w w2 := hb1.trans (hb2.mono hb1.size)
  obtain ⟨W2, hW2⟩ : ∃ W2, W2 = w2.alloc (.cells #[.int .i64 0, .int .i64 K, .int .i64 0] 39) := ⟨_, rfl⟩
  have hA2 : Below w2.heap.size w2 W2 := by rw [hW2]; exact (Below.refl _ _).alloc (Nat.le_refl _) _
  have hO2 : ObjAt W2 w2.heap.size 39 [.int .i64 0, .int .i64 K, .int .i64 0] := by rw [hW2]; exact ObjAt.new _ _ _
  have hBW2 : Below w.heap.size w W2 := hB2.trans (hA2.mono hB2.size)
  obtain ⟨R, hR⟩ : ∃ R, R = w2.heap.size := ⟨_, rfl⟩
  rw [← hR] at hO2
  have hRl : R < W2.heap.size := hO2.lt
  have hwR : w.heap.size ≤ R := by rw [hR]; exact hB2.size
  go_upto_region 5 with (fail)
  rw [← hW2, ← hR]
  clear hW2 hR hA2 hb2 hB2 hb1 RN
  go_wp2_with fail
  refine (rpIssNew _).mono ?_
  rintro r w3 ⟨bi, bb, rfl, hbi, hbl3, hI3, hb3⟩
  have hB3 : Below w.heap.size w w3 := hBW2.trans (hb3.mono hBW2.size)
  have hO3 := hO2.below hb3
  obtain ⟨B1, hB1⟩ : ∃ B1, B1 = w3.heap.size := ⟨_, rfl⟩
  rw [← hB1] at hbl3
  have hw3 : w.heap.size ≤ B1 := by rw [hB1]; exact hB3.size
  have hR1 : R < B1 := by rw [hB1]; exact hO3.lt
  have hbw : w.heap.size ≤ bi ∧ w.heap.size ≤ bb := by have := hBW2.size; omega
  have HO3 := hide hO3
  have HI3 := hide hI3
  clear hO3 hO2 hI3 hBW2 hb3
  go_wp2_with fail
  go_loopw [9, 10] (fun vl i wr => ∃ (k : Nat) (ls : List Int) (n m many : Int), i = .int .i64 k ∧ k ≤ len ∧ k ≤ 16 ∧ Hid (IssAt wr bi bb n m many) ∧ 0 ≤ n ∧ n ≤ m ∧ m ≤ 8 * (k : Int) ∧ 0 ≤ many ∧ many ≤ (k : Int) ∧ Hid (ObjAt wr R 39 [.int .i64 0, .int .i64 K, .int .i64 0]) ∧ Hid (wr.ownsRow B1 3 1 vl ls.length (ls.map (Value.int .i64))) ∧ Hid (rpL ls n) ∧ ls.length ≤ k ∧ B1 ≤ wr.heap.size ∧ Below w.heap.size w wr) (fun _ i _ => 100 - (intOf i).toNat)
  case atStart => exact ⟨0, [], 0, 0, 0, rfl, by omega, by omega, HI3, by omega, by omega, by omega, by omega, by omega, HO3, hide (World.ownsRow_nil _ _ _ _), hide ⟨by simp, by simp⟩, by simp, by rw [hB1]; exact Nat.le_refl _, hB3⟩
  case round =>
    clear HO3 HI3 hB3 hB1
    obtain ⟨k, ls, n, m, many, rfl, hk, hk2, hI, hn0, hnm, hm8, hmy0, hmy, hO, hown, hJ, hll, hBr, hb⟩ := hrel
    obtain ⟨w9, rfl⟩ : ∃ x, x = wr := ⟨wr, rfl⟩
    obtain ⟨al, cl, rfl, hl1, hl2, _⟩ := own_slice hown.out
    by_cases h1 : k < len
    · by_cases h2 : k < 16
      · obtain ⟨bd, offd, rfl, hltd, qd⟩ : ∃ bd offd, a = some ⟨bd, offd, none⟩ ∧ bd < w.heap.size ∧ w.cell? ⟨bd, offd + k, none⟩ = some (.int .i64 (dd.getD k 0)) := by
          rcases HR.out with h | ⟨b, off, h4, h5, _, _, h6⟩
          · omega
          · exact ⟨b, off, h4, h5, h6 k h1⟩
        generalize dd.getD k 0 = d at qd
        have rd := (hb.cell (p := ⟨bd, offd + k, none⟩) hltd).trans qd
        clear qd
        by_cases d0 : d = 0
        · subst d0
          go_wp2_with fail
          refine (issueCrash bi bb n m many _ hI.out).mono ?_
          rintro r w10 ⟨rfl, hI10, hk10⟩
          have hB10 : Below w.heap.size w w10 := hb.trans (hk10.below hb.size (by simp; exact hbw))
          have HI10 := hide hI10
          have HO10 : Hid (ObjAt w10 R 39 [.int .i64 0, .int .i64 K, .int .i64 0]) := hide (Kept.obj hk10 hO.out (by simp; omega))
          have HW10 := hide (own_kept hown.out hk10 (by simp; omega))
          have hs10 : B1 ≤ w10.heap.size := Nat.le_trans hBr hk10.size
          have HJ10 := hide (hJ.out.up hnm)
          clear hI10 hk10 hI hO hown hJ
          go_wp2
          go_roundw
          case rel => exact ⟨k + 1, ls, m, m, many, by go_num, by omega, by omega, HI10, by omega, by omega, by omega, by omega, by omega, HO10, HW10, HJ10, by omega, hs10, hB10⟩
          case measure => simp [intOf] <;> omega
        · have e0 : (d == 0) = false := beq_eq_false_iff_ne.2 d0
          obtain ⟨m', hbn, hm1, hm2'⟩ := blk8 hn0 hnm (by omega)
          have IC := hide (IS.out bi bb n m m' many hn0 hnm (by omega) hbn (by omega) w9 hI.out)
          generalize tagOf K [2, n, 50] = g at IC
          have x0 := hO.out.cell (i := 0) rfl
          have x1 := hO.out.cell (i := 1) rfl
          have x2 := hO.out.cell (i := 2) rfl
          clear hbn hI
          go_wp2_with fail
          refine IC.out.mono ?_
          rintro r w10 ⟨rfl, hI10, hk10⟩
          have hB10 : Below w.heap.size w w10 := hb.trans (hk10.below hb.size (by simp; exact hbw))
          have hO10 : ObjAt w10 R 39 [.int .i64 0, .int .i64 K, .int .i64 0] := Kept.obj hk10 hO.out (by simp; omega)
          have hW10 := own_kept hown.out hk10 (by simp; omega)
          have hs10 : B1 ≤ w10.heap.size := Nat.le_trans hBr hk10.size
          obtain ⟨W10, hW⟩ : ∃ W, W = w10.alloc (.cells #[.int .i64 0, .int .i64 n, .int .i64 50, .int .i64 g] 45) := ⟨_, rfl⟩
          have hA10 : Below w10.heap.size w10 W10 := by rw [hW]; exact (Below.refl _ _).alloc (Nat.le_refl _) _
          have hX10 : ObjAt W10 w10.heap.size 45 [.int .i64 0, .int .i64 n, .int .i64 50, .int .i64 g] := by rw [hW]; exact ObjAt.new _ _ _
          have x3 := hX10.cell (i := 1) rfl
          have HI11 := hide (hI10.below hA10)
          have HO11 := hide (hO10.below hA10)
          have hW11 := own_below hW10 hA10
          have HW11 := hide hW11
          have HB11 := hide (hB10.trans (hA10.mono hB10.size))
          have hs11 : B1 ≤ W10.heap.size := Nat.le_trans hs10 hA10.size
          have hgb : ∀ q, (Value.slice al ls.length cl).ownBlock = some q → B1 ≤ q := own_blk hW11
          clear hI10 hk10 hO10 hW10 hB10 hA10 hX10 hO hown x0 x1 x2 IC hW11
          go_upto_region 15 with (fail)
          rw [← hW]
          clear hW
          go_wp2_with (first | (at_builtin; refine wpList_append_own _ rfl _ _ 36 rfl B1 3 i0 (.int .i64 0) 1 8 Tryd.underlying36 Hi0.out Hz0.out Hz1.out Hz2.out rfl (by decide) _ _ _ rfl (HW11.out.alloc _) ⟨W10.heap.size, 0, none⟩ 1 1 [.int .i64 n] rfl rfl ?c1 ?c2 ?c3 ?c4 ?c5 ?_))
          case c1 =>
            intro j u hj
            match j, hj with
            | 0, hj => simp at hj; subst hj; simp [Addr.add]
          case c2 => intro u hu; simp at hu; subst hu; rfl
          case c3 => unfold maxLen; omega
          case c4 => omega
          case c5 => simp; omega
          intro v12 w12 hown12 hg12 _
          have HO12 : Hid (ObjAt w12 R 39 [.int .i64 0, .int .i64 K, .int .i64 0]) := hide (grown_obj hg12 (ObjAt.alloc HO11.out _) (fun q hq => by have := hgb q hq; omega))
          have HI12 : Hid (IssAt w12 bi bb (n + 1) m' (many + 1)) := hide ⟨grown_obj hg12 (ObjAt.alloc HI11.out.1 _) (fun q hq => by have := hgb q hq; omega), grown_obj hg12 (ObjAt.alloc HI11.out.2.1 _) (fun q hq => by have := hgb q hq; omega), HI11.out.2.2⟩
          have HB12 := hide (grown_below (HB11.out.alloc HB11.out.size _) hg12 (fun q hq => by have := hgb q hq; omega) (by have := HB11.out.size; simp; omega))
          have HW12 : Hid (w12.ownsRow B1 3 1 v12 (ls ++ [n]).length ((ls ++ [n]).map (Value.int .i64))) := hide (by have := rp_snoc hown12; simpa using this)
          have hs12 : B1 ≤ w12.heap.size := by have := hg12.size; simp at this; omega
          have HJ12 := hide (hJ.out.add hn0)
          have hll12 : (ls ++ [n]).length ≤ k + 1 := by simp; exact hll
          clear hown12 hg12 hgb HO11 HI11 HB11 HW11 hJ x3
          go_wp2
          go_roundw
          case rel => exact ⟨k + 1, ls ++ [n], n + 1, m', many + 1, by go_num, by omega, by omega, HI12, by omega, by omega, by omega, by omega, by omega, HO12, HW12, HJ12, hll12, hs12, HB12.out⟩
          case measure => simp [intOf] <;> omega
      ·
        have hl16 : ls.length ≤ 16 := by omega
        have hJ2 : Hid (rpL ls 1000) := hide (hJ.out.up (by omega))
        clear hI hO hJ IS
        have HW9 := hide hown.out
        clear hown
        go_wp2_with fail
        refine (windowNew _).mono ?_
        rintro r w10 ⟨rfl, hb10⟩
        have hB10 : Below w.heap.size w w10 := hb.trans (hb10.mono hb.size)
        have hs10 : B1 ≤ w10.heap.size := Nat.le_trans hBr hb10.size
        obtain ⟨W10, hW⟩ : ∃ W, W = w10.alloc (.cells #[.int .i64 (-1), .int .i64 0] 49) := ⟨_, rfl⟩
        have hA10 : Below w10.heap.size w10 W10 := by rw [hW]; exact (Below.refl _ _).alloc (Nat.le_refl _) _
        obtain ⟨X, hX⟩ : ∃ X, X = w10.heap.size := ⟨_, rfl⟩
        have hX10 : ObjAt W10 X 49 [.int .i64 (-1), .int .i64 0] := by rw [hW, hX]; exact ObjAt.new _ _ _
        have hB11 : Below w.heap.size w W10 := hB10.trans (hA10.mono hB10.size)
        have hXl := hX10.lt
        have hXb : B1 ≤ X := by rw [hX]; exact hs10
        have hvX : ∀ g, (Value.slice al ls.length cl).ownBlock = some g → g < X := fun g hg => by have := (HW9.out.lt g hg).2; have := hb10.size; omega
        have HW10 := hide (own_below (own_below HW9.out hb10) hA10)
        go_upto_region 19 with (fail)
        rw [← hW, ← hX]
        clear hW hX hA10 hb10 hB10 HW9
        go_wp2_with fail
        refine (vaNew _).mono ?_
        rintro r w11 ⟨V, rfl, hVn, hV, hb11⟩
        have hB12 : Below w.heap.size w w11 := hB11.trans (hb11.mono hB11.size)
        have hX11 := hX10.below hb11
        have HW11 := hide (own_below HW10.out hb11)
        have hVl := hV.1.lt
        go_wp2_with fail
        refine (lgNew _).mono ?_
        rintro r w12 ⟨L, rfl, hLn, hL, hb12⟩
        have hB13 : Below w.heap.size w w12 := hB12.trans (hb12.mono hB12.size)
        have HW12 := hide (own_below HW11.out hb12)
        have hz11 := hb11.size
        have hz12 := hb12.size
        have HRP : Hid (RP w12 B1 X V L (-1) 0 (.slice al ls.length cl) (.slice none 0 0) (.slice none 0 0) (.slice none 0 0) (.slice none 0 0) ls [] [] [] [] ByteArray.empty) := hide
          { ox := hX11.below hb12
            va := hV.below hb12
            lg := hL
            rl := HW12.out
            rh := World.ownsRow_nil _ _ _ _
            hb := by omega
            ne := by omega
            nl := fun g hg => by have := hvX g hg; omega
            nh := fun g hg => by simp [Value.ownBlock] at hg
            ns := fun u hu g hg => by rcases hu with rfl | rfl | rfl <;> simp [Value.ownBlock] at hg }
        have HRJ : Hid (rpJ (-1) 0 ls [] []) := hide ⟨⟨[], ⟨by decide, by simp, fun n h1 h2 h3 => by omega⟩, by simp⟩, hJ2.out.1, hJ2.out.2, hl16, by simp, by simp, by simp⟩
        have hs12 : B1 ≤ w12.heap.size := by omega
        clear hX11 hV hL HW12 HW11 HW10 hX10 hb11 hb12 hB11 hB12 hVl hVn hLn hXl hXb hvX hs10 hJ2 hb hBr
        go_wp2_with fail
        go_loopw [16, 17] (fun vh i wr => ∃ (k2 : Nat) (T : Int) (b : Nat) (v1 v2 v : Value) (hs ts : List Int) (s : ByteArray), i = .int .i64 k2 ∧ k2 ≤ len2 ∧ k2 ≤ 60 ∧ Hid (RP wr B1 X V L T b (.slice al ls.length cl) vh v1 v2 v ls hs ts ts ts s) ∧ Hid (rpJ T b ls hs ts) ∧ hs.length ≤ k2 ∧ s.size ≤ 21 * ts.length ∧ B1 ≤ wr.heap.size ∧ Below w.heap.size w wr) (fun _ i _ => 100 - (intOf i).toNat)
        case atStart => exact ⟨0, -1, 0, _, _, _, [], [], _, rfl, by omega, by omega, HRP, HRJ, by simp, by simp, hs12, hB13⟩
        case round =>
          clear HRP HRJ hB13 hs12
          obtain ⟨j, T, b, v1, v2, v, hs, ts, s, rfl, hj, hj2, hRP, hRJ, hhl, hsz, hBr, hb⟩ := hrel
          obtain ⟨w20, rfl⟩ : ∃ x, x = wr := ⟨wr, rfl⟩
          by_cases h3 : j < len2
          · by_cases h4 : j < 60
            ·
              obtain ⟨bt, offt, rfl, hltt, qt⟩ : ∃ bt offt, a2 = some ⟨bt, offt, none⟩ ∧ bt < w.heap.size ∧ w.cell? ⟨bt, offt + j, none⟩ = some (.int .i64 (oo.getD j 0)) := by
                rcases HR2.out with h | ⟨b, off, h4, h5, _, _, h6⟩
                · omega
                · exact ⟨b, off, h4, h5, h6 j h3⟩
              generalize oo.getD j 0 = x at qt
              have rt := (hb.cell (p := ⟨bt, offt + j, none⟩) hltt).trans qt
              clear qt
              by_cases hx0 : x < 0
              · go_wp2
                go_roundw
                case rel => exact ⟨j + 1, T, b, v1, v2, v, hs, ts, s, by go_num, by omega, by omega, hRP, hRJ, by omega, hsz, hBr, hb⟩
                case measure => simp [intOf] <;> omega
              · by_cases hx1 : (ls.length : Int) ≤ x
                · go_wp2
                  go_roundw
                  case rel => exact ⟨j + 1, T, b, v1, v2, v, hs, ts, s, by go_num, by omega, by omega, hRP, hRJ, by omega, hsz, hBr, hb⟩
                  case measure => simp [intOf] <;> omega
                · obtain ⟨q, rfl⟩ : ∃ q : Nat, x = (q : Int) := ⟨x.toNat, by omega⟩
                  have hq : q < ls.length := by omega
                  obtain ⟨n, hn⟩ : ∃ n, n = ls.getD q 0 := ⟨_, rfl⟩
                  have hnl : n ∈ ls := by rw [hn]; simp [List.getD, List.getElem?_eq_getElem hq]
                  obtain ⟨gl, hgl, hcl⟩ : ∃ gl, al = some ⟨gl, 0, none⟩ ∧ w20.cell? ⟨gl, q, none⟩ = some (.int .i64 n) := by
                    obtain ⟨a', c', e1, _, _, e2⟩ := own_slice hRP.out.rl
                    rcases e2 with e2 | ⟨g, e3, _, _, e4⟩
                    · omega
                    · simp only [Value.slice.injEq] at e1
                      exact ⟨g, e1.1.trans e3, by rw [hn]; exact e4 q hq⟩
                  clear hn
                  obtain ⟨ah, ch, hvh, hh1, hh2, hh3⟩ := own_slice hRP.out.rh
                  have HH3 := hide hh3
                  have hh60 : hs.length ≤ 60 := by omega
                  clear hh3
                  subst hgl
                  subst hvh
                  go_wp2_with fail
                  go_loopw [19, 20] (fun h kk ww => ∃ t : Nat, kk = .int .i64 (t : Int) ∧ t ≤ hs.length ∧ h = .bool ((hs.take t).any (· == n)) ∧ ww = w20) (fun _ kk _ => 100 - (intOf kk).toNat)
                  case atStart => exact ⟨0, rfl, by omega, rfl, rfl⟩
                  case round =>
                    obtain ⟨t, rfl, ht, rfl, hww⟩ := hrel
                    have hw' := hww.symm
                    clear hww
                    subst hw'
                    by_cases htl : t < hs.length
                    · obtain ⟨gb, rfl, _, _, hgc⟩ := HH3.out.resolve_left (by omega)
                      have cj := hgc t htl
                      have hsn := rp_any hs t htl n
                      obtain ⟨y, hy⟩ : ∃ y, y = hs.getD t 0 := ⟨_, rfl⟩
                      rw [← hy] at cj hsn
                      obtain ⟨p, hp⟩ : ∃ p, p = (hs.take t).any (· == n) := ⟨_, rfl⟩
                      rw [← hp] at hsn ⊢
                      have HS := hide hsn
                      clear hsn hy hp hgc
                      cases p
                      · go_wp2
                        go_roundw
                        case rel => exact ⟨t + 1, by go_num, by omega, by rw [HS.out]; simp [*], by first | rfl | trivial⟩
                        case measure => simp [intOf] <;> omega
                      · go_wp2
                        go_roundw
                        case rel => exact ⟨t + 1, by go_num, by omega, by rw [HS.out]; simp [*], by first | rfl | trivial⟩
                        case measure => simp [intOf] <;> omega
                    · obtain rfl : t = hs.length := by omega
                      rw [List.take_length, rp_mem]
                      clear HH3 hcl rt
                      by_cases hin : n ∈ hs
                      · rw [decide_eq_true hin]
                        obtain ⟨hJ', hsp, c, hc0, hTK⟩ := hRJ.out.again hnl hin
                        have HJ' := hide hJ'
                        have HTK := hide hTK
                        clear hJ' hTK
                        have tc0 : (c == 0) = false := beq_eq_false_iff_ne.2 hc0
                        have VS := hide (vaSpend_bad (n := n) (u := 50) (now := 1) hsp (by decide) V w20 hRP.out.va)
                        have LS := hide (fun W (h : LG W L v (vz ts) s (ts.length : Int) 0 (-1) false) => lgSpend_bad (n := n) (u := 50) (now := 1) hsp (by decide) W h)
                        clear hsp hc0
                        go_wp2_with fail
                        refine VS.out.mono ?_
                        rintro r w21 ⟨rfl, hb21⟩
                        have hRP21 := hRP.out.below hb21
                        have hB21 : Below w.heap.size w w21 := hb.trans (hb21.mono hb.size)
                        have hz21 := hb21.size
                        go_wp2_with fail
                        refine (LS.out _ hRP21.lg).mono ?_
                        rintro r w22 ⟨rfl, hb22⟩
                        have hRP22 := hRP21.below hb22
                        have hB22 : Below w.heap.size w w22 := hB21.trans (hb22.mono hB21.size)
                        have hz22 := hb22.size
                        have HRP22 := hide hRP22
                        have p0 := hRP22.ox.cell (i := 0) rfl
                        have p1 := hRP22.ox.cell (i := 1) rfl
                        clear hRP22 hRP21 hb21 hb22 VS LS hRP hRJ hb
                        go_wp2_with fail
                        refine (HTK.out _).mono ?_
                        rintro r w23 ⟨rfl, hb23⟩
                        have hRP23 := HRP22.out.below hb23
                        have hB23 : Below w.heap.size w w23 := hB22.trans (hb23.mono hB22.size)
                        have hz23 := hb23.size
                        obtain ⟨W23, hW⟩ : ∃ W, W = w23.alloc (.cells #[.int .i64 0, .int .i64 0] 49) := ⟨_, rfl⟩
                        have hA23 : Below w23.heap.size w23 W23 := by rw [hW]; exact (Below.refl _ _).alloc (Nat.le_refl _) _
                        obtain ⟨Y, hY⟩ : ∃ Y, Y = w23.heap.size := ⟨_, rfl⟩
                        have hY23 : ObjAt W23 Y 49 [.int .i64 0, .int .i64 0] := by rw [hW, hY]; exact ObjAt.new _ _ _
                        have HRP24 := hide (hRP23.below hA23)
                        have HY24 := hide hY23
                        have hB24 : Below w.heap.size w W23 := hB23.trans (hA23.mono hB23.size)
                        have hz24 := hA23.size
                        go_upto_region 35 with (fail)
                        rw [← hW, ← hY]
                        clear hW hY hA23 hRP23 hb23 HRP22 p0 p1 hY23 HTK
                        go_wp2_with fail
                        refine (HE.out 7 _ hB24).mono ?_
                        rintro r w25 ⟨rfl, hb25⟩
                        have hB25 : Below w.heap.size w w25 := hB24.trans (hb25.mono hB24.size)
                        have hRP25 := HRP24.out.below hb25
                        have hz25 := hb25.size
                        go_wp2_with fail
                        refine (HE.out 7 _ hB25).mono ?_
                        rintro r w26 ⟨rfl, hb26⟩
                        have hB26 : Below w.heap.size w w26 := hB25.trans (hb26.mono hB25.size)
                        have HRP26 := hide (hRP25.below hb26)
                        have hz26 := hb26.size
                        have hs26 : B1 ≤ w26.heap.size := by omega
                        clear hRP25 HRP24 hb25 hb26
                        go_wp2_with (first | (at_builtin; refine wpList_append_lies _ rfl _ _ 36 rfl B1 3 i0 (.int .i64 0) 1 8 Tryd.underlying36 Hi0.out Hz0.out Hz1.out Hz2.out rfl (by decide) _ _ _ rfl (HRP26.out.rh.alloc _) ⟨w26.heap.size, 0, none⟩ 1 1 [.int .i64 n] rfl rfl ?c1 ?c2 ?c0 ?c3 ?c4 ?c5 _ rfl ?_))
                        case c1 =>
                          intro j u hj
                          match j, hj with
                          | 0, hj => simp at hj; subst hj; simp [Addr.add]
                        case c2 => intro u hu; simp at hu; subst hu; rfl
                        case c0 => decide
                        case c3 => unfold maxLen; omega
                        case c4 => omega
                        case c5 => simp; omega
                        intro g1 cap1 w30 hown30 hg30 hat30 hlt30
                        have hA30 : Below w26.heap.size w26 (w26.alloc (.cells #[.int .i64 n] 3)) := (Below.refl _ _).alloc (Nat.le_refl _) _
                        have hRP30 := (HRP26.out.below hA30).push (hs' := hs ++ [n]) hg30 (by simp) (rp_snoc hown30) (fun g hg => by
                          rw [show (Value.slice (some ⟨g1, 0, none⟩) (hs.length + 1) cap1).ownBlock = some g1 from rfl] at hg
                          obtain rfl := Option.some.inj hg
                          exact hat30.imp id (fun e => by simp; omega))
                        have hB30 : Below w.heap.size w w30 := grown_below (hB26.trans (hA30.mono hB26.size)) hg30 (fun q hq => by have := own_blk HRP26.out.rh q hq; omega) (by have := hB26.size; simp; omega)
                        have hs30 : B1 ≤ w30.heap.size := by have := hg30.size; simp at this; omega
                        have HRP30 := hide hRP30
                        clear hown30 hg30 hat30 hlt30 hA30 hRP30 HRP26
                        go_wp2_with fail
                        refine (vaSync V _ HRP30.out.va).mono ?_
                        rintro r w31 ⟨rfl, v2', hva31, hvn31, hk31⟩
                        have HRP31 := hide (HRP30.out.stepV hva31 (.inl rfl) (.inr hvn31) hk31)
                        have hB31 : Below w.heap.size w w31 := kept_below hB30 hk31 (by simp; have := HRP30.out.hb; omega) hB30.size
                        have hs31 : B1 ≤ w31.heap.size := Nat.le_trans hs30 hk31.size
                        clear hva31 hvn31 hk31 HRP30
                        go_wp2_with fail
                        refine (vaCrash V _ HRP31.out.va).mono ?_
                        rintro r w32 ⟨rfl, v1', hva32, hvn32, hk32⟩
                        have HRP32 := hide (HRP31.out.stepV hva32 (.inr hvn32) (.inl rfl) hk32)
                        have hB32 : Below w.heap.size w w32 := kept_below hB31 hk32 (by simp; have := HRP31.out.hb; omega) hB31.size
                        have hs32 : B1 ≤ w32.heap.size := Nat.le_trans hs31 hk32.size
                        have hhl32 : (hs ++ [n]).length ≤ j + 1 := by simp; exact hhl
                        clear hva32 hvn32 hk32 HRP31
                        go_wp2
                        go_roundw
                        case rel => exact ⟨j + 1, T, b, _, _, _, hs ++ [n], ts, s, by go_num, by omega, by omega, HRP32, HJ', hhl32, hsz, hs32, hB32⟩
                        case measure => simp [intOf] <;> omega
                      · rw [decide_eq_false hin]
                        obtain ⟨hsp, hl15, hcase⟩ := hRJ.out.first hnl hin
                        have hnr : 0 ≤ n ∧ n < 1000 := hRJ.out.2.1 n hnl
                        obtain ⟨s', hs'⟩ : ∃ s', s ++ recB n 50 1 = s' := ⟨_, rfl⟩
                        have hsz' : s'.size ≤ 21 * (ts ++ [n]).length := by
                          have := (recB_size (n := n) (u := 50) (now := 1) (by omega) (by decide) (by decide)).2
                          rw [← hs', ByteArray.size_append]; simp; omega
                        have hdn : spDrop (vz ts) 1 ++ [(n, 50)] = vz (ts ++ [n]) := by rw [vz_drop, vz_snoc]
                        have VS := hide (vaSpend_ok (n := n) (u := 50) (now := 1) hdn hsp (by rw [vz_len]; omega) V w20 hRP.out.va)
                        have LS := hide (fun W (hB : Below w.heap.size w W) (h : LG W L v (vz ts) s (ts.length : Int) 0 (-1) false) => lgSpend_ok (n := n) (u := 50) (now := 1) (left' := -1) hdn hsp (by rw [vz_len]; omega) (by omega) (by decide) (by decide) (by decide) stepL_neg (by omega) hs' W (HT.out W hB) h)
                        have HCS := hide hcase
                        clear hsp hs' hdn hcase
                        go_wp2_with fail
                        refine VS.out.mono ?_
                        rintro r w21 ⟨rfl, v1', hva21, hvn21, hk21⟩
                        have hRP21 := hRP.out.stepV hva21 (.inr hvn21) (.inl rfl) hk21
                        have hB21 : Below w.heap.size w w21 := kept_below hb hk21 (by simp; have := hRP.out.hb; omega) hb.size
                        have hz21 := hk21.size
                        go_wp2_with fail
                        refine (LS.out _ hB21 hRP21.lg).mono ?_
                        rintro r w22 ⟨rfl, v', hlg22, hvn22, hk22⟩
                        have hRP22 := hRP21.stepL (us' := ts ++ [n]) (by simpa using hlg22) hvn22 hk22
                        have hB22 : Below w.heap.size w w22 := kept_below hB21 hk22 (by simp; have := hRP21.hb; omega) hB21.size
                        have hz22 := hk22.size
                        have HRP22 := hide hRP22
                        have p0 := hRP22.ox.cell (i := 0) rfl
                        have p1 := hRP22.ox.cell (i := 1) rfl
                        clear hRP22 hRP21 hva21 hvn21 hk21 hlg22 hvn22 hk22 VS LS hRP hRJ hb
                        rcases HCS.out with ⟨T', b', hJ', hTK⟩ | ⟨hJ', c, hc0, hTK⟩
                        ·
                          have HJ' := hide hJ'
                          have HTK := hide hTK
                          clear hJ' hTK
                          clear HCS
                          go_wp2_with fail
                          refine (HTK.out _).mono ?_
                          rintro r w23 ⟨rfl, hb23⟩
                          have hRP23 := HRP22.out.below hb23
                          have hB23 : Below w.heap.size w w23 := hB22.trans (hb23.mono hB22.size)
                          have hz23 := hb23.size
                          obtain ⟨W23, hW⟩ : ∃ W, W = w23.alloc (.cells #[.int .i64 T', .int .i64 (b' : Int)] 49) := ⟨_, rfl⟩
                          have hA23 : Below w23.heap.size w23 W23 := by rw [hW]; exact (Below.refl _ _).alloc (Nat.le_refl _) _
                          obtain ⟨Y, hY⟩ : ∃ Y, Y = w23.heap.size := ⟨_, rfl⟩
                          have hY23 : ObjAt W23 Y 49 [.int .i64 T', .int .i64 (b' : Int)] := by rw [hW, hY]; exact ObjAt.new _ _ _
                          have HRP24 := hide (hRP23.below hA23)
                          have HY24 := hide hY23
                          have hB24 : Below w.heap.size w W23 := hB23.trans (hA23.mono hB23.size)
                          have hz24 := hA23.size
                          go_upto_region 35 with (fail)
                          rw [← hW, ← hY]
                          clear hW hY hA23 hRP23 hb23 HRP22 p0 p1 hY23 HTK
                          have y0 := HY24.out.cell (i := 0) rfl
                          have y1 := HY24.out.cell (i := 1) rfl
                          have x0 := HRP24.out.ox.cell (i := 0) rfl
                          have x1 := HRP24.out.ox.cell (i := 1) rfl
                          have f0 := HRP24.out.ox.free 0
                          have f1 := HRP24.out.ox.free 1
                          obtain ⟨W26, hW⟩ : ∃ W, W = (W23.setCell ⟨X, 0, none⟩ (.int .i64 T')).setCell ⟨X, 1, none⟩ (.int .i64 (b' : Int)) := ⟨_, rfl⟩
                          have HRP26 : Hid (RP W26 B1 X V L T' b' (.slice (some ⟨gl, 0, none⟩) ls.length cl) (.slice ah hs.length ch) v1' v2 v' ls hs (ts ++ [n]) ts (ts ++ [n]) s') := by rw [hW]; exact HRP24.out.setX T' b'
                          have hB26 : Below w.heap.size w W26 := by rw [hW]; exact Below.set2 hB24 (by have := HRP24.out.hb; omega)
                          have hs26 : B1 ≤ W26.heap.size := by rw [hW]; simp; omega
                          go_upto_region 39 with (fail)
                          rw [← hW]
                          clear hW y0 y1 x0 x1 f0 f1 HRP24 HY24 hB24
                          go_wp2_with (first | (at_builtin; refine wpList_append_lies _ rfl _ _ 36 rfl B1 3 i0 (.int .i64 0) 1 8 Tryd.underlying36 Hi0.out Hz0.out Hz1.out Hz2.out rfl (by decide) _ _ _ rfl (HRP26.out.rh.alloc _) ⟨W26.heap.size, 0, none⟩ 1 1 [.int .i64 n] rfl rfl ?c1 ?c2 ?c0 ?c3 ?c4 ?c5 _ rfl ?_))
                          case c1 =>
                            intro j u hj
                            match j, hj with
                            | 0, hj => simp at hj; subst hj; simp [Addr.add]
                          case c2 => intro u hu; simp at hu; subst hu; rfl
                          case c0 => decide
                          case c3 => unfold maxLen; omega
                          case c4 => omega
                          case c5 => simp; omega
                          intro g1 cap1 w30 hown30 hg30 hat30 hlt30
                          have hA30 : Below W26.heap.size W26 (W26.alloc (.cells #[.int .i64 n] 3)) := (Below.refl _ _).alloc (Nat.le_refl _) _
                          have hRP30 := (HRP26.out.below hA30).push (hs' := hs ++ [n]) hg30 (by simp) (rp_snoc hown30) (fun g hg => by
                            rw [show (Value.slice (some ⟨g1, 0, none⟩) (hs.length + 1) cap1).ownBlock = some g1 from rfl] at hg
                            obtain rfl := Option.some.inj hg
                            exact hat30.imp id (fun e => by simp; omega))
                          have hB30 : Below w.heap.size w w30 := grown_below (hB26.trans (hA30.mono hB26.size)) hg30 (fun q hq => by have := own_blk HRP26.out.rh q hq; omega) (by have := hB26.size; simp; omega)
                          have hs30 : B1 ≤ w30.heap.size := by have := hg30.size; simp at this; omega
                          have HRP30 := hide hRP30
                          clear hown30 hg30 hat30 hlt30 hA30 hRP30 HRP26
                          go_wp2_with fail
                          refine (vaSync V _ HRP30.out.va).mono ?_
                          rintro r w31 ⟨rfl, v2', hva31, hvn31, hk31⟩
                          have HRP31 := hide (HRP30.out.stepV hva31 (.inl rfl) (.inr hvn31) hk31)
                          have hB31 : Below w.heap.size w w31 := kept_below hB30 hk31 (by simp; have := HRP30.out.hb; omega) hB30.size
                          have hs31 : B1 ≤ w31.heap.size := Nat.le_trans hs30 hk31.size
                          clear hva31 hvn31 hk31 HRP30
                          go_wp2_with fail
                          refine (vaCrash V _ HRP31.out.va).mono ?_
                          rintro r w32 ⟨rfl, v1', hva32, hvn32, hk32⟩
                          have HRP32 := hide (HRP31.out.stepV hva32 (.inr hvn32) (.inl rfl) hk32)
                          have hB32 : Below w.heap.size w w32 := kept_below hB31 hk32 (by simp; have := HRP31.out.hb; omega) hB31.size
                          have hs32 : B1 ≤ w32.heap.size := Nat.le_trans hs31 hk32.size
                          have hhl32 : (hs ++ [n]).length ≤ j + 1 := by simp; exact hhl
                          clear hva32 hvn32 hk32 HRP31
                          go_wp2
                          go_roundw
                          case rel => exact ⟨j + 1, T', b', _, _, _, hs ++ [n], ts ++ [n], s', by go_num, by omega, by omega, HRP32, HJ', hhl32, hsz', hs32, hB32⟩
                          case measure => simp [intOf] <;> omega
                        ·
                          have HJ' := hide hJ'
                          have HTK := hide hTK
                          clear hJ' hTK
                          have tc0 : (c == 0) = false := beq_eq_false_iff_ne.2 hc0
                          clear hc0
                          clear HCS
                          go_wp2_with fail
                          refine (HTK.out _).mono ?_
                          rintro r w23 ⟨rfl, hb23⟩
                          have hRP23 := HRP22.out.below hb23
                          have hB23 : Below w.heap.size w w23 := hB22.trans (hb23.mono hB22.size)
                          have hz23 := hb23.size
                          obtain ⟨W23, hW⟩ : ∃ W, W = w23.alloc (.cells #[.int .i64 0, .int .i64 0] 49) := ⟨_, rfl⟩
                          have hA23 : Below w23.heap.size w23 W23 := by rw [hW]; exact (Below.refl _ _).alloc (Nat.le_refl _) _
                          obtain ⟨Y, hY⟩ : ∃ Y, Y = w23.heap.size := ⟨_, rfl⟩
                          have hY23 : ObjAt W23 Y 49 [.int .i64 0, .int .i64 0] := by rw [hW, hY]; exact ObjAt.new _ _ _
                          have HRP24 := hide (hRP23.below hA23)
                          have HY24 := hide hY23
                          have hB24 : Below w.heap.size w W23 := hB23.trans (hA23.mono hB23.size)
                          have hz24 := hA23.size
                          go_upto_region 35 with (fail)
                          rw [← hW, ← hY]
                          clear hW hY hA23 hRP23 hb23 HRP22 p0 p1 hY23 HTK
                          have hs24 : B1 ≤ W23.heap.size := by omega
                          have HRP26 := HRP24
                          clear HRP24 HY24
                          go_wp2_with (first | (at_builtin; refine wpList_append_lies _ rfl _ _ 36 rfl B1 3 i0 (.int .i64 0) 1 8 Tryd.underlying36 Hi0.out Hz0.out Hz1.out Hz2.out rfl (by decide) _ _ _ rfl (HRP26.out.rh.alloc _) ⟨W23.heap.size, 0, none⟩ 1 1 [.int .i64 n] rfl rfl ?c1 ?c2 ?c0 ?c3 ?c4 ?c5 _ rfl ?_))
                          case c1 =>
                            intro j u hj
                            match j, hj with
                            | 0, hj => simp at hj; subst hj; simp [Addr.add]
                          case c2 => intro u hu; simp at hu; subst hu; rfl
                          case c0 => decide
                          case c3 => unfold maxLen; omega
                          case c4 => omega
                          case c5 => simp; omega
                          intro g1 cap1 w30 hown30 hg30 hat30 hlt30
                          have hA30 : Below W23.heap.size W23 (W23.alloc (.cells #[.int .i64 n] 3)) := (Below.refl _ _).alloc (Nat.le_refl _) _
                          have hRP30 := (HRP26.out.below hA30).push (hs' := hs ++ [n]) hg30 (by simp) (rp_snoc hown30) (fun g hg => by
                            rw [show (Value.slice (some ⟨g1, 0, none⟩) (hs.length + 1) cap1).ownBlock = some g1 from rfl] at hg
                            obtain rfl := Option.some.inj hg
                            exact hat30.imp id (fun e => by simp; omega))
                          have hB30 : Below w.heap.size w w30 := grown_below (hB24.trans (hA30.mono hB24.size)) hg30 (fun q hq => by have := own_blk HRP26.out.rh q hq; omega) (by have := hB24.size; simp; omega)
                          have hs30 : B1 ≤ w30.heap.size := by have := hg30.size; simp at this; omega
                          have HRP30 := hide hRP30
                          clear hown30 hg30 hat30 hlt30 hA30 hRP30 HRP26
                          go_wp2_with fail
                          refine (vaSync V _ HRP30.out.va).mono ?_
                          rintro r w31 ⟨rfl, v2', hva31, hvn31, hk31⟩
                          have HRP31 := hide (HRP30.out.stepV hva31 (.inl rfl) (.inr hvn31) hk31)
                          have hB31 : Below w.heap.size w w31 := kept_below hB30 hk31 (by simp; have := HRP30.out.hb; omega) hB30.size
                          have hs31 : B1 ≤ w31.heap.size := Nat.le_trans hs30 hk31.size
                          clear hva31 hvn31 hk31 HRP30
                          go_wp2_with fail
                          refine (vaCrash V _ HRP31.out.va).mono ?_
                          rintro r w32 ⟨rfl, v1', hva32, hvn32, hk32⟩
                          have HRP32 := hide (HRP31.out.stepV hva32 (.inr hvn32) (.inl rfl) hk32)
                          have hB32 : Below w.heap.size w w32 := kept_below hB31 hk32 (by simp; have := HRP31.out.hb; omega) hB31.size
                          have hs32 : B1 ≤ w32.heap.size := Nat.le_trans hs31 hk32.size
                          have hhl32 : (hs ++ [n]).length ≤ j + 1 := by simp; exact hhl
                          clear hva32 hvn32 hk32 HRP31
                          go_wp2
                          go_roundw
                          case rel => exact ⟨j + 1, T, b, _, _, _, hs ++ [n], ts ++ [n], s', by go_num, by omega, by omega, HRP32, HJ', hhl32, hsz', hs32, hB32⟩
                          case measure => simp [intOf] <;> omega
            ·
              have hJr := hRJ.out
              have hsE : spE (vz ts) = 0 := vz_right (by have := nodup_le ls ts hJr.2.2.2.2.1 hJr.2.2.2.2.2.1; omega) (fun x hx => by have := hJr.2.1 x (hJr.2.2.2.2.2.1 x hx); omega) hJr.2.2.2.2.1
              have hwE : winE T (b : Int) = 0 := by obtain ⟨⟨tk, h1, _⟩, _⟩ := hJr; exact h1.1
              have AL := hide (lgAll w20 hRP.out.lg)
              have SC := hide (fun v' W (h : PSl W v' (vz ts)) => spCheck hsE v' W h)
              have WC := hide (fun W => windowCheck hwE W)
              clear hJr hsE hwE hRJ
              go_wp2_with fail
              refine AL.out.mono ?_
              rintro r w21 ⟨v', rfl, hp21, hb21⟩
              have hB21 : Below w.heap.size w w21 := hb.trans (hb21.mono hb.size)
              go_wp2_with fail
              refine (SC.out _ _ hp21).mono ?_
              rintro r w22 ⟨rfl, hb22⟩
              have hB22 : Below w.heap.size w w22 := hB21.trans (hb22.mono hB21.size)
              have hRP22 := (hRP.out.below hb21).below hb22
              have p0 := hRP22.ox.cell (i := 0) rfl
              have p1 := hRP22.ox.cell (i := 1) rfl
              clear hRP hRP22 hp21 hb21 hb22 AL SC
              go_wp2_with fail
              refine (WC.out _).mono ?_
              rintro r w23 ⟨rfl, hb23⟩
              go_wp2
              go_ret
              exact ⟨rfl, hB22.trans (hb23.mono hB22.size)⟩
          ·
            have hJr := hRJ.out
            have hsE : spE (vz ts) = 0 := vz_right (by have := nodup_le ls ts hJr.2.2.2.2.1 hJr.2.2.2.2.2.1; omega) (fun x hx => by have := hJr.2.1 x (hJr.2.2.2.2.2.1 x hx); omega) hJr.2.2.2.2.1
            have hwE : winE T (b : Int) = 0 := by obtain ⟨⟨tk, h1, _⟩, _⟩ := hJr; exact h1.1
            have AL := hide (lgAll w20 hRP.out.lg)
            have SC := hide (fun v' W (h : PSl W v' (vz ts)) => spCheck hsE v' W h)
            have WC := hide (fun W => windowCheck hwE W)
            clear hJr hsE hwE hRJ
            go_wp2_with fail
            refine AL.out.mono ?_
            rintro r w21 ⟨v', rfl, hp21, hb21⟩
            have hB21 : Below w.heap.size w w21 := hb.trans (hb21.mono hb.size)
            go_wp2_with fail
            refine (SC.out _ _ hp21).mono ?_
            rintro r w22 ⟨rfl, hb22⟩
            have hB22 : Below w.heap.size w w22 := hB21.trans (hb22.mono hB21.size)
            have hRP22 := (hRP.out.below hb21).below hb22
            have p0 := hRP22.ox.cell (i := 0) rfl
            have p1 := hRP22.ox.cell (i := 1) rfl
            clear hRP hRP22 hp21 hb21 hb22 AL SC
            go_wp2_with fail
            refine (WC.out _).mono ?_
            rintro r w23 ⟨rfl, hb23⟩
            go_wp2
            go_ret
            exact ⟨rfl, hB22.trans (hb23.mono hB22.size)⟩
    ·
      have hl16 : ls.length ≤ 16 := by omega
      have hJ2 : Hid (rpL ls 1000) := hide (hJ.out.up (by omega))
      clear hI hO hJ IS
      have HW9 := hide hown.out
      clear hown
      go_wp2_with fail
      refine (windowNew _).mono ?_
      rintro r w10 ⟨rfl, hb10⟩
      have hB10 : Below w.heap.size w w10 := hb.trans (hb10.mono hb.size)
      have hs10 : B1 ≤ w10.heap.size := Nat.le_trans hBr hb10.size
      obtain ⟨W10, hW⟩ : ∃ W, W = w10.alloc (.cells #[.int .i64 (-1), .int .i64 0] 49) := ⟨_, rfl⟩
      have hA10 : Below w10.heap.size w10 W10 := by rw [hW]; exact (Below.refl _ _).alloc (Nat.le_refl _) _
      obtain ⟨X, hX⟩ : ∃ X, X = w10.heap.size := ⟨_, rfl⟩
      have hX10 : ObjAt W10 X 49 [.int .i64 (-1), .int .i64 0] := by rw [hW, hX]; exact ObjAt.new _ _ _
      have hB11 : Below w.heap.size w W10 := hB10.trans (hA10.mono hB10.size)
      have hXl := hX10.lt
      have hXb : B1 ≤ X := by rw [hX]; exact hs10
      have hvX : ∀ g, (Value.slice al ls.length cl).ownBlock = some g → g < X := fun g hg => by have := (HW9.out.lt g hg).2; have := hb10.size; omega
      have HW10 := hide (own_below (own_below HW9.out hb10) hA10)
      go_upto_region 19 with (fail)
      rw [← hW, ← hX]
      clear hW hX hA10 hb10 hB10 HW9
      go_wp2_with fail
      refine (vaNew _).mono ?_
      rintro r w11 ⟨V, rfl, hVn, hV, hb11⟩
      have hB12 : Below w.heap.size w w11 := hB11.trans (hb11.mono hB11.size)
      have hX11 := hX10.below hb11
      have HW11 := hide (own_below HW10.out hb11)
      have hVl := hV.1.lt
      go_wp2_with fail
      refine (lgNew _).mono ?_
      rintro r w12 ⟨L, rfl, hLn, hL, hb12⟩
      have hB13 : Below w.heap.size w w12 := hB12.trans (hb12.mono hB12.size)
      have HW12 := hide (own_below HW11.out hb12)
      have hz11 := hb11.size
      have hz12 := hb12.size
      have HRP : Hid (RP w12 B1 X V L (-1) 0 (.slice al ls.length cl) (.slice none 0 0) (.slice none 0 0) (.slice none 0 0) (.slice none 0 0) ls [] [] [] [] ByteArray.empty) := hide
        { ox := hX11.below hb12
          va := hV.below hb12
          lg := hL
          rl := HW12.out
          rh := World.ownsRow_nil _ _ _ _
          hb := by omega
          ne := by omega
          nl := fun g hg => by have := hvX g hg; omega
          nh := fun g hg => by simp [Value.ownBlock] at hg
          ns := fun u hu g hg => by rcases hu with rfl | rfl | rfl <;> simp [Value.ownBlock] at hg }
      have HRJ : Hid (rpJ (-1) 0 ls [] []) := hide ⟨⟨[], ⟨by decide, by simp, fun n h1 h2 h3 => by omega⟩, by simp⟩, hJ2.out.1, hJ2.out.2, hl16, by simp, by simp, by simp⟩
      have hs12 : B1 ≤ w12.heap.size := by omega
      clear hX11 hV hL HW12 HW11 HW10 hX10 hb11 hb12 hB11 hB12 hVl hVn hLn hXl hXb hvX hs10 hJ2 hb hBr
      go_wp2_with fail
      go_loopw [16, 17] (fun vh i wr => ∃ (k2 : Nat) (T : Int) (b : Nat) (v1 v2 v : Value) (hs ts : List Int) (s : ByteArray), i = .int .i64 k2 ∧ k2 ≤ len2 ∧ k2 ≤ 60 ∧ Hid (RP wr B1 X V L T b (.slice al ls.length cl) vh v1 v2 v ls hs ts ts ts s) ∧ Hid (rpJ T b ls hs ts) ∧ hs.length ≤ k2 ∧ s.size ≤ 21 * ts.length ∧ B1 ≤ wr.heap.size ∧ Below w.heap.size w wr) (fun _ i _ => 100 - (intOf i).toNat)
      case atStart => exact ⟨0, -1, 0, _, _, _, [], [], _, rfl, by omega, by omega, HRP, HRJ, by simp, by simp, hs12, hB13⟩
      case round =>
        clear HRP HRJ hB13 hs12
        obtain ⟨j, T, b, v1, v2, v, hs, ts, s, rfl, hj, hj2, hRP, hRJ, hhl, hsz, hBr, hb⟩ := hrel
        obtain ⟨w20, rfl⟩ : ∃ x, x = wr := ⟨wr, rfl⟩
        by_cases h3 : j < len2
        · by_cases h4 : j < 60
          ·
            obtain ⟨bt, offt, rfl, hltt, qt⟩ : ∃ bt offt, a2 = some ⟨bt, offt, none⟩ ∧ bt < w.heap.size ∧ w.cell? ⟨bt, offt + j, none⟩ = some (.int .i64 (oo.getD j 0)) := by
              rcases HR2.out with h | ⟨b, off, h4, h5, _, _, h6⟩
              · omega
              · exact ⟨b, off, h4, h5, h6 j h3⟩
            generalize oo.getD j 0 = x at qt
            have rt := (hb.cell (p := ⟨bt, offt + j, none⟩) hltt).trans qt
            clear qt
            by_cases hx0 : x < 0
            · go_wp2
              go_roundw
              case rel => exact ⟨j + 1, T, b, v1, v2, v, hs, ts, s, by go_num, by omega, by omega, hRP, hRJ, by omega, hsz, hBr, hb⟩
              case measure => simp [intOf] <;> omega
            · by_cases hx1 : (ls.length : Int) ≤ x
              · go_wp2
                go_roundw
                case rel => exact ⟨j + 1, T, b, v1, v2, v, hs, ts, s, by go_num, by omega, by omega, hRP, hRJ, by omega, hsz, hBr, hb⟩
                case measure => simp [intOf] <;> omega
              · obtain ⟨q, rfl⟩ : ∃ q : Nat, x = (q : Int) := ⟨x.toNat, by omega⟩
                have hq : q < ls.length := by omega
                obtain ⟨n, hn⟩ : ∃ n, n = ls.getD q 0 := ⟨_, rfl⟩
                have hnl : n ∈ ls := by rw [hn]; simp [List.getD, List.getElem?_eq_getElem hq]
                obtain ⟨gl, hgl, hcl⟩ : ∃ gl, al = some ⟨gl, 0, none⟩ ∧ w20.cell? ⟨gl, q, none⟩ = some (.int .i64 n) := by
                  obtain ⟨a', c', e1, _, _, e2⟩ := own_slice hRP.out.rl
                  rcases e2 with e2 | ⟨g, e3, _, _, e4⟩
                  · omega
                  · simp only [Value.slice.injEq] at e1
                    exact ⟨g, e1.1.trans e3, by rw [hn]; exact e4 q hq⟩
                clear hn
                obtain ⟨ah, ch, hvh, hh1, hh2, hh3⟩ := own_slice hRP.out.rh
                have HH3 := hide hh3
                have hh60 : hs.length ≤ 60 := by omega
                clear hh3
                subst hgl
                subst hvh
                go_wp2_with fail
                go_loopw [19, 20] (fun h kk ww => ∃ t : Nat, kk = .int .i64 (t : Int) ∧ t ≤ hs.length ∧ h = .bool ((hs.take t).any (· == n)) ∧ ww = w20) (fun _ kk _ => 100 - (intOf kk).toNat)
                case atStart => exact ⟨0, rfl, by omega, rfl, rfl⟩
                case round =>
                  obtain ⟨t, rfl, ht, rfl, hww⟩ := hrel
                  have hw' := hww.symm
                  clear hww
                  subst hw'
                  by_cases htl : t < hs.length
                  · obtain ⟨gb, rfl, _, _, hgc⟩ := HH3.out.resolve_left (by omega)
                    have cj := hgc t htl
                    have hsn := rp_any hs t htl n
                    obtain ⟨y, hy⟩ : ∃ y, y = hs.getD t 0 := ⟨_, rfl⟩
                    rw [← hy] at cj hsn
                    obtain ⟨p, hp⟩ : ∃ p, p = (hs.take t).any (· == n) := ⟨_, rfl⟩
                    rw [← hp] at hsn ⊢
                    have HS := hide hsn
                    clear hsn hy hp hgc
                    cases p
                    · go_wp2
                      go_roundw
                      case rel => exact ⟨t + 1, by go_num, by omega, by rw [HS.out]; simp [*], by first | rfl | trivial⟩
                      case measure => simp [intOf] <;> omega
                    · go_wp2
                      go_roundw
                      case rel => exact ⟨t + 1, by go_num, by omega, by rw [HS.out]; simp [*], by first | rfl | trivial⟩
                      case measure => simp [intOf] <;> omega
                  · obtain rfl : t = hs.length := by omega
                    rw [List.take_length, rp_mem]
                    clear HH3 hcl rt
                    by_cases hin : n ∈ hs
                    · rw [decide_eq_true hin]
                      obtain ⟨hJ', hsp, c, hc0, hTK⟩ := hRJ.out.again hnl hin
                      have HJ' := hide hJ'
                      have HTK := hide hTK
                      clear hJ' hTK
                      have tc0 : (c == 0) = false := beq_eq_false_iff_ne.2 hc0
                      have VS := hide (vaSpend_bad (n := n) (u := 50) (now := 1) hsp (by decide) V w20 hRP.out.va)
                      have LS := hide (fun W (h : LG W L v (vz ts) s (ts.length : Int) 0 (-1) false) => lgSpend_bad (n := n) (u := 50) (now := 1) hsp (by decide) W h)
                      clear hsp hc0
                      go_wp2_with fail
                      refine VS.out.mono ?_
                      rintro r w21 ⟨rfl, hb21⟩
                      have hRP21 := hRP.out.below hb21
                      have hB21 : Below w.heap.size w w21 := hb.trans (hb21.mono hb.size)
                      have hz21 := hb21.size
                      go_wp2_with fail
                      refine (LS.out _ hRP21.lg).mono ?_
                      rintro r w22 ⟨rfl, hb22⟩
                      have hRP22 := hRP21.below hb22
                      have hB22 : Below w.heap.size w w22 := hB21.trans (hb22.mono hB21.size)
                      have hz22 := hb22.size
                      have HRP22 := hide hRP22
                      have p0 := hRP22.ox.cell (i := 0) rfl
                      have p1 := hRP22.ox.cell (i := 1) rfl
                      clear hRP22 hRP21 hb21 hb22 VS LS hRP hRJ hb
                      go_wp2_with fail
                      refine (HTK.out _).mono ?_
                      rintro r w23 ⟨rfl, hb23⟩
                      have hRP23 := HRP22.out.below hb23
                      have hB23 : Below w.heap.size w w23 := hB22.trans (hb23.mono hB22.size)
                      have hz23 := hb23.size
                      obtain ⟨W23, hW⟩ : ∃ W, W = w23.alloc (.cells #[.int .i64 0, .int .i64 0] 49) := ⟨_, rfl⟩
                      have hA23 : Below w23.heap.size w23 W23 := by rw [hW]; exact (Below.refl _ _).alloc (Nat.le_refl _) _
                      obtain ⟨Y, hY⟩ : ∃ Y, Y = w23.heap.size := ⟨_, rfl⟩
                      have hY23 : ObjAt W23 Y 49 [.int .i64 0, .int .i64 0] := by rw [hW, hY]; exact ObjAt.new _ _ _
                      have HRP24 := hide (hRP23.below hA23)
                      have HY24 := hide hY23
                      have hB24 : Below w.heap.size w W23 := hB23.trans (hA23.mono hB23.size)
                      have hz24 := hA23.size
                      go_upto_region 35 with (fail)
                      rw [← hW, ← hY]
                      clear hW hY hA23 hRP23 hb23 HRP22 p0 p1 hY23 HTK
                      go_wp2_with fail
                      refine (HE.out 7 _ hB24).mono ?_
                      rintro r w25 ⟨rfl, hb25⟩
                      have hB25 : Below w.heap.size w w25 := hB24.trans (hb25.mono hB24.size)
                      have hRP25 := HRP24.out.below hb25
                      have hz25 := hb25.size
                      go_wp2_with fail
                      refine (HE.out 7 _ hB25).mono ?_
                      rintro r w26 ⟨rfl, hb26⟩
                      have hB26 : Below w.heap.size w w26 := hB25.trans (hb26.mono hB25.size)
                      have HRP26 := hide (hRP25.below hb26)
                      have hz26 := hb26.size
                      have hs26 : B1 ≤ w26.heap.size := by omega
                      clear hRP25 HRP24 hb25 hb26
                      go_wp2_with (first | (at_builtin; refine wpList_append_lies _ rfl _ _ 36 rfl B1 3 i0 (.int .i64 0) 1 8 Tryd.underlying36 Hi0.out Hz0.out Hz1.out Hz2.out rfl (by decide) _ _ _ rfl (HRP26.out.rh.alloc _) ⟨w26.heap.size, 0, none⟩ 1 1 [.int .i64 n] rfl rfl ?c1 ?c2 ?c0 ?c3 ?c4 ?c5 _ rfl ?_))
                      case c1 =>
                        intro j u hj
                        match j, hj with
                        | 0, hj => simp at hj; subst hj; simp [Addr.add]
                      case c2 => intro u hu; simp at hu; subst hu; rfl
                      case c0 => decide
                      case c3 => unfold maxLen; omega
                      case c4 => omega
                      case c5 => simp; omega
                      intro g1 cap1 w30 hown30 hg30 hat30 hlt30
                      have hA30 : Below w26.heap.size w26 (w26.alloc (.cells #[.int .i64 n] 3)) := (Below.refl _ _).alloc (Nat.le_refl _) _
                      have hRP30 := (HRP26.out.below hA30).push (hs' := hs ++ [n]) hg30 (by simp) (rp_snoc hown30) (fun g hg => by
                        rw [show (Value.slice (some ⟨g1, 0, none⟩) (hs.length + 1) cap1).ownBlock = some g1 from rfl] at hg
                        obtain rfl := Option.some.inj hg
                        exact hat30.imp id (fun e => by simp; omega))
                      have hB30 : Below w.heap.size w w30 := grown_below (hB26.trans (hA30.mono hB26.size)) hg30 (fun q hq => by have := own_blk HRP26.out.rh q hq; omega) (by have := hB26.size; simp; omega)
                      have hs30 : B1 ≤ w30.heap.size := by have := hg30.size; simp at this; omega
                      have HRP30 := hide hRP30
                      clear hown30 hg30 hat30 hlt30 hA30 hRP30 HRP26
                      go_wp2_with fail
                      refine (vaSync V _ HRP30.out.va).mono ?_
                      rintro r w31 ⟨rfl, v2', hva31, hvn31, hk31⟩
                      have HRP31 := hide (HRP30.out.stepV hva31 (.inl rfl) (.inr hvn31) hk31)
                      have hB31 : Below w.heap.size w w31 := kept_below hB30 hk31 (by simp; have := HRP30.out.hb; omega) hB30.size
                      have hs31 : B1 ≤ w31.heap.size := Nat.le_trans hs30 hk31.size
                      clear hva31 hvn31 hk31 HRP30
                      go_wp2_with fail
                      refine (vaCrash V _ HRP31.out.va).mono ?_
                      rintro r w32 ⟨rfl, v1', hva32, hvn32, hk32⟩
                      have HRP32 := hide (HRP31.out.stepV hva32 (.inr hvn32) (.inl rfl) hk32)
                      have hB32 : Below w.heap.size w w32 := kept_below hB31 hk32 (by simp; have := HRP31.out.hb; omega) hB31.size
                      have hs32 : B1 ≤ w32.heap.size := Nat.le_trans hs31 hk32.size
                      have hhl32 : (hs ++ [n]).length ≤ j + 1 := by simp; exact hhl
                      clear hva32 hvn32 hk32 HRP31
                      go_wp2
                      go_roundw
                      case rel => exact ⟨j + 1, T, b, _, _, _, hs ++ [n], ts, s, by go_num, by omega, by omega, HRP32, HJ', hhl32, hsz, hs32, hB32⟩
                      case measure => simp [intOf] <;> omega
                    · rw [decide_eq_false hin]
                      obtain ⟨hsp, hl15, hcase⟩ := hRJ.out.first hnl hin
                      have hnr : 0 ≤ n ∧ n < 1000 := hRJ.out.2.1 n hnl
                      obtain ⟨s', hs'⟩ : ∃ s', s ++ recB n 50 1 = s' := ⟨_, rfl⟩
                      have hsz' : s'.size ≤ 21 * (ts ++ [n]).length := by
                        have := (recB_size (n := n) (u := 50) (now := 1) (by omega) (by decide) (by decide)).2
                        rw [← hs', ByteArray.size_append]; simp; omega
                      have hdn : spDrop (vz ts) 1 ++ [(n, 50)] = vz (ts ++ [n]) := by rw [vz_drop, vz_snoc]
                      have VS := hide (vaSpend_ok (n := n) (u := 50) (now := 1) hdn hsp (by rw [vz_len]; omega) V w20 hRP.out.va)
                      have LS := hide (fun W (hB : Below w.heap.size w W) (h : LG W L v (vz ts) s (ts.length : Int) 0 (-1) false) => lgSpend_ok (n := n) (u := 50) (now := 1) (left' := -1) hdn hsp (by rw [vz_len]; omega) (by omega) (by decide) (by decide) (by decide) stepL_neg (by omega) hs' W (HT.out W hB) h)
                      have HCS := hide hcase
                      clear hsp hs' hdn hcase
                      go_wp2_with fail
                      refine VS.out.mono ?_
                      rintro r w21 ⟨rfl, v1', hva21, hvn21, hk21⟩
                      have hRP21 := hRP.out.stepV hva21 (.inr hvn21) (.inl rfl) hk21
                      have hB21 : Below w.heap.size w w21 := kept_below hb hk21 (by simp; have := hRP.out.hb; omega) hb.size
                      have hz21 := hk21.size
                      go_wp2_with fail
                      refine (LS.out _ hB21 hRP21.lg).mono ?_
                      rintro r w22 ⟨rfl, v', hlg22, hvn22, hk22⟩
                      have hRP22 := hRP21.stepL (us' := ts ++ [n]) (by simpa using hlg22) hvn22 hk22
                      have hB22 : Below w.heap.size w w22 := kept_below hB21 hk22 (by simp; have := hRP21.hb; omega) hB21.size
                      have hz22 := hk22.size
                      have HRP22 := hide hRP22
                      have p0 := hRP22.ox.cell (i := 0) rfl
                      have p1 := hRP22.ox.cell (i := 1) rfl
                      clear hRP22 hRP21 hva21 hvn21 hk21 hlg22 hvn22 hk22 VS LS hRP hRJ hb
                      rcases HCS.out with ⟨T', b', hJ', hTK⟩ | ⟨hJ', c, hc0, hTK⟩
                      ·
                        have HJ' := hide hJ'
                        have HTK := hide hTK
                        clear hJ' hTK
                        clear HCS
                        go_wp2_with fail
                        refine (HTK.out _).mono ?_
                        rintro r w23 ⟨rfl, hb23⟩
                        have hRP23 := HRP22.out.below hb23
                        have hB23 : Below w.heap.size w w23 := hB22.trans (hb23.mono hB22.size)
                        have hz23 := hb23.size
                        obtain ⟨W23, hW⟩ : ∃ W, W = w23.alloc (.cells #[.int .i64 T', .int .i64 (b' : Int)] 49) := ⟨_, rfl⟩
                        have hA23 : Below w23.heap.size w23 W23 := by rw [hW]; exact (Below.refl _ _).alloc (Nat.le_refl _) _
                        obtain ⟨Y, hY⟩ : ∃ Y, Y = w23.heap.size := ⟨_, rfl⟩
                        have hY23 : ObjAt W23 Y 49 [.int .i64 T', .int .i64 (b' : Int)] := by rw [hW, hY]; exact ObjAt.new _ _ _
                        have HRP24 := hide (hRP23.below hA23)
                        have HY24 := hide hY23
                        have hB24 : Below w.heap.size w W23 := hB23.trans (hA23.mono hB23.size)
                        have hz24 := hA23.size
                        go_upto_region 35 with (fail)
                        rw [← hW, ← hY]
                        clear hW hY hA23 hRP23 hb23 HRP22 p0 p1 hY23 HTK
                        have y0 := HY24.out.cell (i := 0) rfl
                        have y1 := HY24.out.cell (i := 1) rfl
                        have x0 := HRP24.out.ox.cell (i := 0) rfl
                        have x1 := HRP24.out.ox.cell (i := 1) rfl
                        have f0 := HRP24.out.ox.free 0
                        have f1 := HRP24.out.ox.free 1
                        obtain ⟨W26, hW⟩ : ∃ W, W = (W23.setCell ⟨X, 0, none⟩ (.int .i64 T')).setCell ⟨X, 1, none⟩ (.int .i64 (b' : Int)) := ⟨_, rfl⟩
                        have HRP26 : Hid (RP W26 B1 X V L T' b' (.slice (some ⟨gl, 0, none⟩) ls.length cl) (.slice ah hs.length ch) v1' v2 v' ls hs (ts ++ [n]) ts (ts ++ [n]) s') := by rw [hW]; exact HRP24.out.setX T' b'
                        have hB26 : Below w.heap.size w W26 := by rw [hW]; exact Below.set2 hB24 (by have := HRP24.out.hb; omega)
                        have hs26 : B1 ≤ W26.heap.size := by rw [hW]; simp; omega
                        go_upto_region 39 with (fail)
                        rw [← hW]
                        clear hW y0 y1 x0 x1 f0 f1 HRP24 HY24 hB24
                        go_wp2_with (first | (at_builtin; refine wpList_append_lies _ rfl _ _ 36 rfl B1 3 i0 (.int .i64 0) 1 8 Tryd.underlying36 Hi0.out Hz0.out Hz1.out Hz2.out rfl (by decide) _ _ _ rfl (HRP26.out.rh.alloc _) ⟨W26.heap.size, 0, none⟩ 1 1 [.int .i64 n] rfl rfl ?c1 ?c2 ?c0 ?c3 ?c4 ?c5 _ rfl ?_))
                        case c1 =>
                          intro j u hj
                          match j, hj with
                          | 0, hj => simp at hj; subst hj; simp [Addr.add]
                        case c2 => intro u hu; simp at hu; subst hu; rfl
                        case c0 => decide
                        case c3 => unfold maxLen; omega
                        case c4 => omega
                        case c5 => simp; omega
                        intro g1 cap1 w30 hown30 hg30 hat30 hlt30
                        have hA30 : Below W26.heap.size W26 (W26.alloc (.cells #[.int .i64 n] 3)) := (Below.refl _ _).alloc (Nat.le_refl _) _
                        have hRP30 := (HRP26.out.below hA30).push (hs' := hs ++ [n]) hg30 (by simp) (rp_snoc hown30) (fun g hg => by
                          rw [show (Value.slice (some ⟨g1, 0, none⟩) (hs.length + 1) cap1).ownBlock = some g1 from rfl] at hg
                          obtain rfl := Option.some.inj hg
                          exact hat30.imp id (fun e => by simp; omega))
                        have hB30 : Below w.heap.size w w30 := grown_below (hB26.trans (hA30.mono hB26.size)) hg30 (fun q hq => by have := own_blk HRP26.out.rh q hq; omega) (by have := hB26.size; simp; omega)
                        have hs30 : B1 ≤ w30.heap.size := by have := hg30.size; simp at this; omega
                        have HRP30 := hide hRP30
                        clear hown30 hg30 hat30 hlt30 hA30 hRP30 HRP26
                        go_wp2_with fail
                        refine (vaSync V _ HRP30.out.va).mono ?_
                        rintro r w31 ⟨rfl, v2', hva31, hvn31, hk31⟩
                        have HRP31 := hide (HRP30.out.stepV hva31 (.inl rfl) (.inr hvn31) hk31)
                        have hB31 : Below w.heap.size w w31 := kept_below hB30 hk31 (by simp; have := HRP30.out.hb; omega) hB30.size
                        have hs31 : B1 ≤ w31.heap.size := Nat.le_trans hs30 hk31.size
                        clear hva31 hvn31 hk31 HRP30
                        go_wp2_with fail
                        refine (vaCrash V _ HRP31.out.va).mono ?_
                        rintro r w32 ⟨rfl, v1', hva32, hvn32, hk32⟩
                        have HRP32 := hide (HRP31.out.stepV hva32 (.inr hvn32) (.inl rfl) hk32)
                        have hB32 : Below w.heap.size w w32 := kept_below hB31 hk32 (by simp; have := HRP31.out.hb; omega) hB31.size
                        have hs32 : B1 ≤ w32.heap.size := Nat.le_trans hs31 hk32.size
                        have hhl32 : (hs ++ [n]).length ≤ j + 1 := by simp; exact hhl
                        clear hva32 hvn32 hk32 HRP31
                        go_wp2
                        go_roundw
                        case rel => exact ⟨j + 1, T', b', _, _, _, hs ++ [n], ts ++ [n], s', by go_num, by omega, by omega, HRP32, HJ', hhl32, hsz', hs32, hB32⟩
                        case measure => simp [intOf] <;> omega
                      ·
                        have HJ' := hide hJ'
                        have HTK := hide hTK
                        clear hJ' hTK
                        have tc0 : (c == 0) = false := beq_eq_false_iff_ne.2 hc0
                        clear hc0
                        clear HCS
                        go_wp2_with fail
                        refine (HTK.out _).mono ?_
                        rintro r w23 ⟨rfl, hb23⟩
                        have hRP23 := HRP22.out.below hb23
                        have hB23 : Below w.heap.size w w23 := hB22.trans (hb23.mono hB22.size)
                        have hz23 := hb23.size
                        obtain ⟨W23, hW⟩ : ∃ W, W = w23.alloc (.cells #[.int .i64 0, .int .i64 0] 49) := ⟨_, rfl⟩
                        have hA23 : Below w23.heap.size w23 W23 := by rw [hW]; exact (Below.refl _ _).alloc (Nat.le_refl _) _
                        obtain ⟨Y, hY⟩ : ∃ Y, Y = w23.heap.size := ⟨_, rfl⟩
                        have hY23 : ObjAt W23 Y 49 [.int .i64 0, .int .i64 0] := by rw [hW, hY]; exact ObjAt.new _ _ _
                        have HRP24 := hide (hRP23.below hA23)
                        have HY24 := hide hY23
                        have hB24 : Below w.heap.size w W23 := hB23.trans (hA23.mono hB23.size)
                        have hz24 := hA23.size
                        go_upto_region 35 with (fail)
                        rw [← hW, ← hY]
                        clear hW hY hA23 hRP23 hb23 HRP22 p0 p1 hY23 HTK
                        have hs24 : B1 ≤ W23.heap.size := by omega
                        have HRP26 := HRP24
                        clear HRP24 HY24
                        go_wp2_with (first | (at_builtin; refine wpList_append_lies _ rfl _ _ 36 rfl B1 3 i0 (.int .i64 0) 1 8 Tryd.underlying36 Hi0.out Hz0.out Hz1.out Hz2.out rfl (by decide) _ _ _ rfl (HRP26.out.rh.alloc _) ⟨W23.heap.size, 0, none⟩ 1 1 [.int .i64 n] rfl rfl ?c1 ?c2 ?c0 ?c3 ?c4 ?c5 _ rfl ?_))
                        case c1 =>
                          intro j u hj
                          match j, hj with
                          | 0, hj => simp at hj; subst hj; simp [Addr.add]
                        case c2 => intro u hu; simp at hu; subst hu; rfl
                        case c0 => decide
                        case c3 => unfold maxLen; omega
                        case c4 => omega
                        case c5 => simp; omega
                        intro g1 cap1 w30 hown30 hg30 hat30 hlt30
                        have hA30 : Below W23.heap.size W23 (W23.alloc (.cells #[.int .i64 n] 3)) := (Below.refl _ _).alloc (Nat.le_refl _) _
                        have hRP30 := (HRP26.out.below hA30).push (hs' := hs ++ [n]) hg30 (by simp) (rp_snoc hown30) (fun g hg => by
                          rw [show (Value.slice (some ⟨g1, 0, none⟩) (hs.length + 1) cap1).ownBlock = some g1 from rfl] at hg
                          obtain rfl := Option.some.inj hg
                          exact hat30.imp id (fun e => by simp; omega))
                        have hB30 : Below w.heap.size w w30 := grown_below (hB24.trans (hA30.mono hB24.size)) hg30 (fun q hq => by have := own_blk HRP26.out.rh q hq; omega) (by have := hB24.size; simp; omega)
                        have hs30 : B1 ≤ w30.heap.size := by have := hg30.size; simp at this; omega
                        have HRP30 := hide hRP30
                        clear hown30 hg30 hat30 hlt30 hA30 hRP30 HRP26
                        go_wp2_with fail
                        refine (vaSync V _ HRP30.out.va).mono ?_
                        rintro r w31 ⟨rfl, v2', hva31, hvn31, hk31⟩
                        have HRP31 := hide (HRP30.out.stepV hva31 (.inl rfl) (.inr hvn31) hk31)
                        have hB31 : Below w.heap.size w w31 := kept_below hB30 hk31 (by simp; have := HRP30.out.hb; omega) hB30.size
                        have hs31 : B1 ≤ w31.heap.size := Nat.le_trans hs30 hk31.size
                        clear hva31 hvn31 hk31 HRP30
                        go_wp2_with fail
                        refine (vaCrash V _ HRP31.out.va).mono ?_
                        rintro r w32 ⟨rfl, v1', hva32, hvn32, hk32⟩
                        have HRP32 := hide (HRP31.out.stepV hva32 (.inr hvn32) (.inl rfl) hk32)
                        have hB32 : Below w.heap.size w w32 := kept_below hB31 hk32 (by simp; have := HRP31.out.hb; omega) hB31.size
                        have hs32 : B1 ≤ w32.heap.size := Nat.le_trans hs31 hk32.size
                        have hhl32 : (hs ++ [n]).length ≤ j + 1 := by simp; exact hhl
                        clear hva32 hvn32 hk32 HRP31
                        go_wp2
                        go_roundw
                        case rel => exact ⟨j + 1, T, b, _, _, _, hs ++ [n], ts ++ [n], s', by go_num, by omega, by omega, HRP32, HJ', hhl32, hsz', hs32, hB32⟩
                        case measure => simp [intOf] <;> omega
          ·
            have hJr := hRJ.out
            have hsE : spE (vz ts) = 0 := vz_right (by have := nodup_le ls ts hJr.2.2.2.2.1 hJr.2.2.2.2.2.1; omega) (fun x hx => by have := hJr.2.1 x (hJr.2.2.2.2.2.1 x hx); omega) hJr.2.2.2.2.1
            have hwE : winE T (b : Int) = 0 := by obtain ⟨⟨tk, h1, _⟩, _⟩ := hJr; exact h1.1
            have AL := hide (lgAll w20 hRP.out.lg)
            have SC := hide (fun v' W (h : PSl W v' (vz ts)) => spCheck hsE v' W h)
            have WC := hide (fun W => windowCheck hwE W)
            clear hJr hsE hwE hRJ
            go_wp2_with fail
            refine AL.out.mono ?_
            rintro r w21 ⟨v', rfl, hp21, hb21⟩
            have hB21 : Below w.heap.size w w21 := hb.trans (hb21.mono hb.size)
            go_wp2_with fail
            refine (SC.out _ _ hp21).mono ?_
            rintro r w22 ⟨rfl, hb22⟩
            have hB22 : Below w.heap.size w w22 := hB21.trans (hb22.mono hB21.size)
            have hRP22 := (hRP.out.below hb21).below hb22
            have p0 := hRP22.ox.cell (i := 0) rfl
            have p1 := hRP22.ox.cell (i := 1) rfl
            clear hRP hRP22 hp21 hb21 hb22 AL SC
            go_wp2_with fail
            refine (WC.out _).mono ?_
            rintro r w23 ⟨rfl, hb23⟩
            go_wp2
            go_ret
            exact ⟨rfl, hB22.trans (hb23.mono hB22.size)⟩
        ·
          have hJr := hRJ.out
          have hsE : spE (vz ts) = 0 := vz_right (by have := nodup_le ls ts hJr.2.2.2.2.1 hJr.2.2.2.2.2.1; omega) (fun x hx => by have := hJr.2.1 x (hJr.2.2.2.2.2.1 x hx); omega) hJr.2.2.2.2.1
          have hwE : winE T (b : Int) = 0 := by obtain ⟨⟨tk, h1, _⟩, _⟩ := hJr; exact h1.1
          have AL := hide (lgAll w20 hRP.out.lg)
          have SC := hide (fun v' W (h : PSl W v' (vz ts)) => spCheck hsE v' W h)
          have WC := hide (fun W => windowCheck hwE W)
          clear hJr hsE hwE hRJ
          go_wp2_with fail
          refine AL.out.mono ?_
          rintro r w21 ⟨v', rfl, hp21, hb21⟩
          have hB21 : Below w.heap.size w w21 := hb.trans (hb21.mono hb.size)
          go_wp2_with fail
          refine (SC.out _ _ hp21).mono ?_
          rintro r w22 ⟨rfl, hb22⟩
          have hB22 : Below w.heap.size w w22 := hB21.trans (hb22.mono hB21.size)
          have hRP22 := (hRP.out.below hb21).below hb22
          have p0 := hRP22.ox.cell (i := 0) rfl
          have p1 := hRP22.ox.cell (i := 1) rfl
          clear hRP hRP22 hp21 hb21 hb22 AL SC
          go_wp2_with fail
          refine (WC.out _).mono ?_
          rintro r w23 ⟨rfl, hb23⟩
          go_wp2
          go_ret
          exact ⟨rfl, hB22.trans (hb23.mono hB22.size)⟩
end Go.Proofs.YtgmljcpeklpniaaDoor
