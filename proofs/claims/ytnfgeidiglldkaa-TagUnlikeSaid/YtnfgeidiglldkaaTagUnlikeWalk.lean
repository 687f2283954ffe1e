/- The walk of TagUnlike. -/
import Derived.Test.YtnfgeidiglldkaaTagCheck
import Derived.Test.YtnfgeidiglldkaaOwn
namespace Go.Proofs.Ytnfgeidiglldkaa
open Go.RowKit

theorem mkE_ok {key : Int} {zs : List Int} (hm : mkE key zs = 0) : inB key = true ∧ zs.all inB = true ∧ zs.length ≤ 12 := by
  have hkey : inB key = true := by
    cases h : inB key
    · simp [mkE, h] at hm
    · rfl
  refine ⟨hkey, ?_⟩
  unfold mkE at hm
  rw [if_neg (by simp [hkey])] at hm
  by_cases hl : 12 < zs.length
  · rw [if_pos hl] at hm; omega
  · rw [if_neg hl] at hm
    cases h : zs.all inB
    · rw [h] at hm; simp at hm
    · exact ⟨rfl, by omega⟩
theorem mkE_of {key : Int} {zs : List Int} (h1 : inB key = true) (h2 : zs.all inB = true) (h3 : zs.length ≤ 12) : mkE key zs = 0 := by
  unfold mkE; rw [if_neg (by simp [h1]), if_neg (by omega), if_pos h2]
theorem tagMake_one (key x v c : Int) (hv : mkV key [x] = v) (hc : mkE key [x] = c) (hx : (Lit.int .i64 x).wf = true) (W : World) (b : Nat) (h : W.cell? ⟨b, 0, none⟩ = some (.int .i64 x)) :
    Calls Try.prog 8 #[.int .i64 key, .slice (some ⟨b, 0, none⟩) 1 1] W fun e w' => e = .returned (.tuple #[.int .i64 v, errV c]) ∧ W = w' := by
  refine tagMake_eq hv hc ⟨rfl, by simp [maxLen], by simpa using hx, .inr ⟨b, 0, rfl, block_lt h, fun i j hi hj => ?_⟩⟩
  obtain rfl : i = 0 := by omega
  obtain rfl : j = 0 := by omega
  simpa using h

set_option maxRecDepth 100000 in
set_option maxHeartbeats 4000000 in
/-- numbers that may be, one of them another -/
theorem walkTagUnlike1 (w : World) (key : Int) (b off len cap : Nat) (zs : List Int) (hlt : b < w.heap.size) (hm : len ≤ maxLen) (hzl : zs.length = len) (hw : ∀ z ∈ zs, (Lit.int .i64 z).wf = true)
    (hc : ∀ i, i < len → w.cell? ⟨b, off + i, none⟩ = some (.int .i64 (zs.getD i 0))) (he : mkE key zs = 0) (k : Nat) (hk : k < len) (n : Int) (hn : (Lit.int .i64 n).wf = true) (o : Int) :
    Calls Try.prog 3 #[.int .i64 key, .slice (some ⟨b, off, none⟩) len cap, .int .i64 (k : Int), .int .i64 n, .int .i64 o] w fun e w' => e = .returned (.bool true) ∧ Below w.heap.size w w' := by
  have hr : IntRow w (some ⟨b, off, none⟩) len zs := by
    refine ⟨hzl, hm, hw, .inr ⟨b, off, rfl, hlt, fun i j hi hj => ?_⟩⟩
    obtain rfl : j = 0 := by omega
    simpa using hc i hi
  obtain ⟨h1, h2, h3⟩ := mkE_ok he
  obtain ⟨x, hx⟩ : ∃ x, x = tagOf key zs := ⟨_, rfl⟩
  have hxi : inB x = true := by rw [hx]; exact inB_true.2 (tagOf_in key zs)
  have M0 : Hid (∀ W b, W.cell? ⟨b, 0, none⟩ = some (.int .i64 2) → Calls Try.prog 8 #[.int .i64 1, .slice (some ⟨b, 0, none⟩) 1 1] W fun e w' => e = .returned (.tuple #[.int .i64 814371, .nilIface]) ∧ W = w') := by
    intro W b h
    exact tagMake_one 1 2 814371 0 (by decide) (by decide) (by decide) W b h
  have M1 : Hid (∀ W, IntRow W (some ⟨b, off, none⟩) len zs → Calls Try.prog 8 #[.int .i64 key, .slice (some ⟨b, off, none⟩) len cap] W fun e w' => e = .returned (.tuple #[.int .i64 x, .nilIface]) ∧ W = w') := by
    intro W hW; exact tagMake_eq (c := 0) (by simp [mkV, he, hx]) he hW
  have M2 : Hid (∀ W, IntRow W (some ⟨b, off, none⟩) len zs → Calls Try.prog 9 #[.int .i64 key, .slice (some ⟨b, off, none⟩) len cap, .int .i64 x] W fun e w' => e = .returned (.tuple #[.bool true, .nilIface]) ∧ W = w') := by
    intro W hW; exact tagCheck_eq (c := 0) (by simp [chkN, he, hxi, ← hx]) hW
  obtain ⟨q, c, hq⟩ : ∃ q c, chkN key zs o = (q, c) := ⟨_, _, rfl⟩
  have M3 : Hid (∀ W, IntRow W (some ⟨b, off, none⟩) len zs → Calls Try.prog 9 #[.int .i64 key, .slice (some ⟨b, off, none⟩) len cap, .int .i64 o] W fun e w' => e = .returned (.tuple #[.bool q, errV c]) ∧ W = w') := by
    intro W hW; exact tagCheck_eq hq hW
  have hcq : c = 0 → q = (o == x) := by
    intro h
    rw [h] at hq
    unfold chkN at hq
    rw [if_pos he] at hq
    split at hq
    · simp only [Prod.mk.injEq, and_true] at hq
      rw [← hq, ← hx, Bool.eq_iff_iff]; simp only [beq_iff_eq]; exact eq_comm
    · simp at hq
  obtain ⟨y, hy⟩ : ∃ y, y = tagOf key (zs.set k n) := ⟨_, rfl⟩
  obtain ⟨v4, c4, hv4, hc4⟩ : ∃ v c, mkV key (zs.set k n) = v ∧ mkE key (zs.set k n) = c := ⟨_, _, rfl, rfl⟩
  have hwn : ∀ z ∈ zs.set k n, (Lit.int .i64 z).wf = true := by
    intro z hz
    rcases List.mem_or_eq_of_mem_set hz with h | h
    · exact hw z h
    · rw [h]; exact hn
  have M4 : Hid (∀ W g cp, W.ownsRow (w.heap.size + 1) 3 1 (.slice (some ⟨g, 0, none⟩) len cp) len ((zs.map (Value.int .i64)).set k (.int .i64 n)) → Calls Try.prog 8 #[.int .i64 key, .slice (some ⟨g, 0, none⟩) len cp] W fun e w' => e = .returned (.tuple #[.int .i64 v4, errV c4]) ∧ W = w') := by
    intro W g cp hW
    rw [set_map_int] at hW
    obtain ⟨a, c, e, _, _, hI⟩ := own_introw hW hwn
    injection e with e1 _ _
    subst e1
    exact tagMake_eq hv4 hc4 hI
  obtain ⟨z, hz⟩ : ∃ z, z = zs.getD k 0 := ⟨_, rfl⟩
  have hzz : z = zs[k] := by rw [hz]; simp [List.getD, hzl, hk]
  have hlast : c4 = 0 → (x == v4) = (n == z) := by
    intro h
    rw [h] at hc4
    obtain ⟨_, g2, _⟩ := mkE_ok hc4
    have hn0 : 0 ≤ n ∧ n < 999983 := inB_true.1 (List.all_eq_true.1 g2 n (by rw [List.mem_iff_getElem]; exact ⟨k, by simp [hzl, hk], by simp⟩))
    have e4 : v4 = tagOf key (zs.set k n) := by rw [← hv4]; simp [mkV, hc4]
    rw [Bool.eq_iff_iff]; simp only [beq_iff_eq]
    rw [hx, e4, hzz]
    exact tagOf_set key zs k n (by omega) (inB_true.1 h1) (fun t ht => inB_true.1 (List.all_eq_true.1 h2 t ht)) hn0
  have hcellk := hc k hk
  rw [← hz] at hcellk
  have Hk := hide hcellk
  have Hr := hide hr
  have Hl : Hid (∀ W : World, Below w.heap.size w W → IntRow W (some ⟨b, off, none⟩) len zs) := fun W hB => hr.below hB
  have Hcells : Hid (∀ W : World, Below w.heap.size w W → ∀ j u, (zs.map (Value.int .i64))[j]? = some u → W.cell? ((⟨b, off, none⟩ : Addr).add j) = some u) := by
    intro W hB j u hu
    have hj : j < len := by
      rcases Nat.lt_or_ge j len with h | h
      · exact h
      · rw [List.getElem?_eq_none (by simpa [hzl] using h)] at hu; cases hu
    rw [getD_map_int zs j (by omega)] at hu
    have := (hB.cell (p := ⟨b, off + j, none⟩) hlt).trans (hc j hj)
    rw [← Option.some.inj hu, ← this]
    unfold Addr.add
    split
    · rename_i h0; simp [h0]
    · rfl
  have Hlen : Hid ((zs.map (Value.int .i64)).length = len * 1) := by show _ = _; simp [hzl]
  have Hone := hide (ints_oneCell zs)
  have Hcq := hide hcq
  have Hlast := hide hlast
  unfold maxLen at hm
  have h12 : len ≤ 12 := by omega
  obtain ⟨i0, hi0, hz0, hz1, hz2⟩ := info_parts Try.infoInt
  have Hi0 := hide hi0
  have Hz0 := hide hz0
  have Hz1 := hide hz1
  have Hz2 := hide hz2
  clear hr h1 h2 h3 hx hxi hq hcq hy hv4 hc4 hwn hz hzz hlast hcellk hc he hw hi0 hz0 hz1 hz2
  have hB0 : Below w.heap.size w (w.alloc (.cells #[.int .i64 2] 3)) := (Below.refl _ _).alloc (Nat.le_refl _) _
  by_cases hc0 : c = 0
  · have eq := Hcq.out hc0
    have M3' : Hid (∀ W, IntRow W (some ⟨b, off, none⟩) len zs → Calls Try.prog 9 #[.int .i64 key, .slice (some ⟨b, off, none⟩) len cap, .int .i64 o] W fun e w' => e = .returned (.tuple #[.bool (o == x), .nilIface]) ∧ W = w') := by
      rw [hc0, eq] at M3; exact M3
    clear hc0 eq M3
    go_enter Try.func3, Try.ntmps3
    go_wp2_with fail
    refine (M0.out _ _ (by simp)).mono ?_
    rintro e w1 ⟨rfl, rfl⟩
    go_wp2_with fail
    refine (M1.out _ (Hl.out _ hB0)).mono ?_
    rintro e w1 ⟨rfl, rfl⟩
    go_wp2_with fail
    refine (M2.out _ (Hl.out _ hB0)).mono ?_
    rintro e w1 ⟨rfl, rfl⟩
    go_wp2_with fail
    refine (M3'.out _ (Hl.out _ hB0)).mono ?_
    rintro e w1 ⟨rfl, rfl⟩
    go_wp2_with (at_builtin
                 refine wpList_append_own _ rfl (.tmp 76) (.tmp 77) _ rfl (w.heap.size + 1) 3 i0 (.int .i64 0) 1 8 Try.underlying22 Hi0.out Hz0.out Hz1.out Hz2.out rfl (by decide) (.slice none 0 0) 0 [] rfl (World.ownsRow_nil _ _ _ _) ⟨b, off, none⟩ len cap (zs.map (Value.int .i64)) rfl Hlen.out (Hcells.out _ hB0) Hone.out (by simp only [maxLen]; omega) (by omega) (by simp) ?_
                 intro v1 w1 hown1 hgrow1 hx1
                 clear hx1
                 rw [Nat.zero_add, List.nil_append] at hown1
                 obtain ⟨g, cp, hv1, hg1, hg2, hg3, hg4⟩ := own_form hown1 (by omega)
                 subst hv1
                 have c0 : w1.cell? ⟨g, k, none⟩ = some (.int .i64 (zs.getD k 0)) := by rw [hown1.cellAt k (by omega), getD_map_int zs k (by omega)]
                 have f0 := hown1.frozenAt k
                 have hB1 : Below w.heap.size w w1 := hB0.grown hgrow1 (by simp) (by simp [Value.ownBlock])
                 have hst := hown1.stored k (.int .i64 n)
                 have hB2 : Below w.heap.size w (w1.setCell ⟨g, k, none⟩ (.int .i64 n)) := hB1.setCell (by show w.heap.size ≤ g; omega) _
                 have cl2 : (w1.setCell ⟨g, k, none⟩ (.int .i64 n)).cell? ⟨b, off + k, none⟩ = some (.int .i64 z) := (hB2.cell (p := ⟨b, off + k, none⟩) hlt).trans Hk.out
                 have H1 := hide hst.1
                 clear hown1 hgrow1 hst
                 skip)
    refine (M4.out _ _ _ H1.out).mono ?_
    rintro e w2 ⟨rfl, rfl⟩
    by_cases hc4 : c4 = 0
    · have eq4 := Hlast.out hc4
      have t4 : (c4 != 0) = false := by simp [hc4]
      clear hc4
      go_wp2
      go_ret
      exact ⟨rfl, hB2⟩
    · have t4 : (c4 != 0) = true := bne_iff_ne.2 hc4
      clear hc4
      go_wp2
      go_ret
      exact ⟨rfl, hB2⟩
  · have t5 : (c == 0) = false := beq_eq_false_iff_ne.2 hc0
    clear hc0
    go_enter Try.func3, Try.ntmps3
    go_wp2_with fail
    refine (M0.out _ _ (by simp)).mono ?_
    rintro e w1 ⟨rfl, rfl⟩
    go_wp2_with fail
    refine (M1.out _ (Hl.out _ hB0)).mono ?_
    rintro e w1 ⟨rfl, rfl⟩
    go_wp2_with fail
    refine (M2.out _ (Hl.out _ hB0)).mono ?_
    rintro e w1 ⟨rfl, rfl⟩
    go_wp2_with fail
    refine (M3.out _ (Hl.out _ hB0)).mono ?_
    rintro e w1 ⟨rfl, rfl⟩
    go_wp2_with (at_builtin
                 refine wpList_append_own _ rfl (.tmp 76) (.tmp 77) _ rfl (w.heap.size + 1) 3 i0 (.int .i64 0) 1 8 Try.underlying22 Hi0.out Hz0.out Hz1.out Hz2.out rfl (by decide) (.slice none 0 0) 0 [] rfl (World.ownsRow_nil _ _ _ _) ⟨b, off, none⟩ len cap (zs.map (Value.int .i64)) rfl Hlen.out (Hcells.out _ hB0) Hone.out (by simp only [maxLen]; omega) (by omega) (by simp) ?_
                 intro v1 w1 hown1 hgrow1 hx1
                 clear hx1
                 rw [Nat.zero_add, List.nil_append] at hown1
                 obtain ⟨g, cp, hv1, hg1, hg2, hg3, hg4⟩ := own_form hown1 (by omega)
                 subst hv1
                 have c0 : w1.cell? ⟨g, k, none⟩ = some (.int .i64 (zs.getD k 0)) := by rw [hown1.cellAt k (by omega), getD_map_int zs k (by omega)]
                 have f0 := hown1.frozenAt k
                 have hB1 : Below w.heap.size w w1 := hB0.grown hgrow1 (by simp) (by simp [Value.ownBlock])
                 have hst := hown1.stored k (.int .i64 n)
                 have hB2 : Below w.heap.size w (w1.setCell ⟨g, k, none⟩ (.int .i64 n)) := hB1.setCell (by show w.heap.size ≤ g; omega) _
                 have cl2 : (w1.setCell ⟨g, k, none⟩ (.int .i64 n)).cell? ⟨b, off + k, none⟩ = some (.int .i64 z) := (hB2.cell (p := ⟨b, off + k, none⟩) hlt).trans Hk.out
                 have H1 := hide hst.1
                 clear hown1 hgrow1 hst
                 skip)
    refine (M4.out _ _ _ H1.out).mono ?_
    rintro e w2 ⟨rfl, rfl⟩
    by_cases hc4 : c4 = 0
    · have eq4 := Hlast.out hc4
      have t4 : (c4 != 0) = false := by simp [hc4]
      clear hc4
      go_wp2
      go_ret
      exact ⟨rfl, hB2⟩
    · have t4 : (c4 != 0) = true := bne_iff_ne.2 hc4
      clear hc4
      go_wp2
      go_ret
      exact ⟨rfl, hB2⟩

set_option maxRecDepth 100000 in
set_option maxHeartbeats 1000000 in
/-- numbers that may not be, or no place among them -/
theorem walkTagUnlike0 (w : World) (key : Int) (a : Option Addr) (len cap : Nat) (zs : List Int) (_hm : len ≤ maxLen) (hr : IntRow w a len zs) (i : Int) (hi : mkE key zs ≠ 0 ∨ i < 0 ∨ (0 ≤ i ∧ (len : Int) ≤ i)) (n : Int) (o : Int) :
    Calls Try.prog 3 #[.int .i64 key, .slice a len cap, .int .i64 i, .int .i64 n, .int .i64 o] w fun e w' => e = .returned (.bool true) ∧ Below w.heap.size w w' := by
  have M0 : Hid (∀ W b, W.cell? ⟨b, 0, none⟩ = some (.int .i64 2) → Calls Try.prog 8 #[.int .i64 1, .slice (some ⟨b, 0, none⟩) 1 1] W fun e w' => e = .returned (.tuple #[.int .i64 814371, .nilIface]) ∧ W = w') := by
    intro W b h
    exact tagMake_one 1 2 814371 0 (by decide) (by decide) (by decide) W b h
  have Hl : Hid (∀ W : World, Below w.heap.size w W → IntRow W a len zs) := fun W hB => hr.below hB
  have hB0 : Below w.heap.size w (w.alloc (.cells #[.int .i64 2] 3)) := (Below.refl _ _).alloc (Nat.le_refl _) _
  unfold maxLen at _hm
  by_cases he : mkE key zs = 0
  · have hi2 : i < 0 ∨ (0 ≤ i ∧ (len : Int) ≤ i) := by
      rcases hi with h | h
      · exact absurd he h
      · exact h
    obtain ⟨x, hx⟩ : ∃ x, x = tagOf key zs := ⟨_, rfl⟩
    have hxi : inB x = true := by rw [hx]; exact inB_true.2 (tagOf_in key zs)
    have M1 : Hid (∀ W, IntRow W a len zs → Calls Try.prog 8 #[.int .i64 key, .slice a len cap] W fun e w' => e = .returned (.tuple #[.int .i64 x, .nilIface]) ∧ W = w') := by
      intro W hW; exact tagMake_eq (c := 0) (by simp [mkV, he, hx]) he hW
    have M2 : Hid (∀ W, IntRow W a len zs → Calls Try.prog 9 #[.int .i64 key, .slice a len cap, .int .i64 x] W fun e w' => e = .returned (.tuple #[.bool true, .nilIface]) ∧ W = w') := by
      intro W hW; exact tagCheck_eq (c := 0) (by simp [chkN, he, hxi, ← hx]) hW
    obtain ⟨q, c, hq⟩ : ∃ q c, chkN key zs o = (q, c) := ⟨_, _, rfl⟩
    have M3 : Hid (∀ W, IntRow W a len zs → Calls Try.prog 9 #[.int .i64 key, .slice a len cap, .int .i64 o] W fun e w' => e = .returned (.tuple #[.bool q, errV c]) ∧ W = w') := by
      intro W hW; exact tagCheck_eq hq hW
    have hcq : c = 0 → q = (o == x) := by
      intro h
      rw [h] at hq
      unfold chkN at hq
      rw [if_pos he] at hq
      split at hq
      · simp only [Prod.mk.injEq, and_true] at hq
        rw [← hq, ← hx, Bool.eq_iff_iff]; simp only [beq_iff_eq]; exact eq_comm
      · simp at hq
    have Hcq := hide hcq
    clear hx hxi hq he hi hr hcq
    by_cases hc0 : c = 0
    · have eq := Hcq.out hc0
      have t5 : (c == 0) = true := by simp [hc0]
      clear hc0
      rcases hi2 with hi2 | ⟨hi2, hi3⟩
      all_goals
        go_enter Try.func3, Try.ntmps3
        go_wp2_with fail
        refine (M0.out _ _ (by simp)).mono ?_
        rintro e w1 ⟨rfl, rfl⟩
        go_wp2_with fail
        refine (M1.out _ (Hl.out _ hB0)).mono ?_
        rintro e w1 ⟨rfl, rfl⟩
        go_wp2_with fail
        refine (M2.out _ (Hl.out _ hB0)).mono ?_
        rintro e w1 ⟨rfl, rfl⟩
        go_wp2_with fail
        refine (M3.out _ (Hl.out _ hB0)).mono ?_
        rintro e w1 ⟨rfl, rfl⟩
        go_wp2
        go_ret
        exact ⟨rfl, hB0⟩
    · have t5 : (c == 0) = false := beq_eq_false_iff_ne.2 hc0
      clear hc0
      rcases hi2 with hi2 | ⟨hi2, hi3⟩
      all_goals
        go_enter Try.func3, Try.ntmps3
        go_wp2_with fail
        refine (M0.out _ _ (by simp)).mono ?_
        rintro e w1 ⟨rfl, rfl⟩
        go_wp2_with fail
        refine (M1.out _ (Hl.out _ hB0)).mono ?_
        rintro e w1 ⟨rfl, rfl⟩
        go_wp2_with fail
        refine (M2.out _ (Hl.out _ hB0)).mono ?_
        rintro e w1 ⟨rfl, rfl⟩
        go_wp2_with fail
        refine (M3.out _ (Hl.out _ hB0)).mono ?_
        rintro e w1 ⟨rfl, rfl⟩
        go_wp2
        go_ret
        exact ⟨rfl, hB0⟩
  · obtain ⟨v, c, hv, hc⟩ : ∃ v c, mkV key zs = v ∧ mkE key zs = c := ⟨_, _, rfl, rfl⟩
    have M1 : Hid (∀ W, IntRow W a len zs → Calls Try.prog 8 #[.int .i64 key, .slice a len cap] W fun e w' => e = .returned (.tuple #[.int .i64 v, errV c]) ∧ W = w') := by
      intro W hW; exact tagMake_eq hv hc hW
    have t5 : (c != 0) = true := bne_iff_ne.2 (by rw [← hc]; exact he)
    clear hi hv hc he hr
    go_enter Try.func3, Try.ntmps3
    go_wp2_with fail
    refine (M0.out _ _ (by simp)).mono ?_
    rintro e w1 ⟨rfl, rfl⟩
    go_wp2_with fail
    refine (M1.out _ (Hl.out _ hB0)).mono ?_
    rintro e w1 ⟨rfl, rfl⟩
    go_wp2
    go_ret
    exact ⟨rfl, hB0⟩
theorem walkTagUnlike (w : World) (key : Int) (_w0 : (Lit.int .i64 key).wf = true) (a : Option Addr) (len cap : Nat) (zs : List Int) (_hl : len ≤ cap) (_hc : cap ≤ maxLen) (hr : IntRow w a len zs) (i : Int) (_w1 : (Lit.int .i64 i).wf = true) (n : Int) (w2 : (Lit.int .i64 n).wf = true) (o : Int) (_w3 : (Lit.int .i64 o).wf = true) :
    Calls Try.prog 3 #[.int .i64 key, .slice a len cap, .int .i64 i, .int .i64 n, .int .i64 o] w fun e w' => e = .returned (.bool true) ∧ Below w.heap.size w w' := by
  by_cases hi : mkE key zs ≠ 0 ∨ i < 0 ∨ (0 ≤ i ∧ (len : Int) ≤ i)
  · exact walkTagUnlike0 w key a len cap zs hr.2.1 hr i hi n o
  · have h1 : mkE key zs = 0 := Classical.byContradiction fun h => hi (.inl h)
    have h2 : 0 ≤ i ∧ i < len := by omega
    rcases hr.split with h0 | ⟨b, off, rfl, hlt, hm, hzl, hc⟩
    · omega
    · have := walkTagUnlike1 w key b off len cap zs hlt hm hzl hr.2.2.1 hc h1 i.toNat (by omega) n w2 o
      rwa [show ((i.toNat : Nat) : Int) = i by omega] at this
end Go.Proofs.Ytnfgeidiglldkaa
