/- foldref1: Spents; foldsame: Spent; spent: Has, Drop by contracts. -/
import Derived.Test.YtfehnfbmlomccaaDoorRSpent
import Derived.Test.YtfehnfbmlomccaaDoorSpSpend
import Derived.BigQuiet
namespace Go.Proofs.YtfehnfbmlomccaaDoor
open Go.RowKit

theorem psl_some {w : World} {v : Value} {zs : List (Int × Int)} (h : PSl w v zs) (hn : zs ≠ []) : ∃ b off c, v = .slice (some ⟨b, off, none⟩) zs.length c ∧ zs.length ≤ c ∧ b < w.heap.size ∧ PC w b off zs := by
  rcases h.2 with ⟨h0, _⟩ | h1
  · exact absurd h0 hn
  · exact h1
theorem psl_nil {w : World} {v : Value} (h : PSl w v []) : ∃ a c, v = .slice a 0 c := by
  rcases h.2 with ⟨_, a, c, rfl⟩ | ⟨b, off, c, rfl, _⟩
  · exact ⟨a, c, rfl⟩
  · exact ⟨_, c, rfl⟩
set_option maxHeartbeats 4000000 in
theorem sameSpent {v1 v2 : Value} {zs : List (Int × Int)} (w : World) (h1 : PSl w v1 zs) (h2 : PSl w v2 zs) :
    Calls Tryd.prog 33 #[v1, v2] w fun e w' => e = .returned (.bool true) ∧ Below w.heap.size w w' := by
  by_cases h0 : zs = []
  · subst h0
    obtain ⟨a1, c1, rfl⟩ := psl_nil h1
    obtain ⟨a2, c2, rfl⟩ := psl_nil h2
    clear h1 h2
    go_enter Tryd.func33, Tryd.ntmps33
    go_wp2
    go_rounds 1
    go_ret
    exact ⟨rfl, Below.refl _ _⟩
  · have hl := h1.1
    obtain ⟨b1, o1, c1, rfl, hc1, hb1, hp1⟩ := psl_some h1 h0
    obtain ⟨b2, o2, c2, rfl, hc2, hb2, hp2⟩ := psl_some h2 h0
    obtain ⟨n, hn⟩ : ∃ n, n = zs.length := ⟨_, rfl⟩
    rw [← hn] at hc1 hc2 hl ⊢
    have Hn := hide hn
    have H1 := hide hp1
    have H2 := hide hp2
    clear h1 h2 h0 hp1 hp2 hn
    go_enter Tryd.func33, Tryd.ntmps33
    go_wp2
    go_loopw [5] (fun i wr => ∃ k : Nat, i = .int .i64 k ∧ k ≤ n ∧ Below w.heap.size w wr) (fun i _ => 2000 - (intOf i).toNat)
    case atStart => exact ⟨0, rfl, by omega, Below.refl _ _⟩
    case round =>
      obtain ⟨k, rfl, hk, hb⟩ := hrel
      by_cases hlt : k < n
      · have hkz : k < zs.length := by rw [← Hn.out]; exact hlt
        obtain ⟨p0, p1⟩ := H1.out.below hb1 hb k hkz
        obtain ⟨q0, q1⟩ := H2.out.below hb2 hb k hkz
        generalize zs.getD k (0, 0) = y at p0 p1 q0 q1
        obtain ⟨y1, y2⟩ := y
        simp only at p0 p1 q0 q1
        clear hkz
        go_wp2_with fail
        go_quiet (fail)
        go_wp2
        go_roundw
        case rel => exact ⟨k + 1, by go_num, by omega, by first | exact hb | exact hb.drew | exact bel_drewN hb _⟩
        case measure => simp [intOf] <;> omega
      · obtain rfl : k = n := by omega
        go_wp2
        go_ret
        exact ⟨rfl, hb⟩
theorem any_takeP {zs : List (Int × Int)} {k m : Nat} {n : Int} (hk : k ≤ zs.length) (hm : m < k) (h : ((zs.getD m (0, 0)).1 == n) = true) : (zs.take k).any (fun z => z.1 == n) = true := by
  rw [List.any_eq_true]
  refine ⟨zs.getD m (0, 0), ?_, h⟩
  rw [List.mem_iff_getElem]
  exact ⟨m, by rw [List.length_take]; omega, by rw [List.getElem_take]; simp [List.getD, List.getElem?_eq_getElem (show m < zs.length by omega)]⟩
theorem any_takeP_no {zs : List (Int × Int)} {k : Nat} {n : Int} (hk : k ≤ zs.length) (h : ∀ j, j < k → ((zs.getD j (0, 0)).1 == n) = false) : (zs.take k).any (fun z => z.1 == n) = false := by
  rw [List.any_eq_false]
  intro x hx hp
  obtain ⟨j, hj, rfl⟩ := List.mem_iff_getElem.1 hx
  have hj' : j < k := by rw [List.length_take] at hj; omega
  have := h j hj'
  rw [List.getElem_take] at hp
  simp only [List.getD, List.getElem?_eq_getElem (show j < zs.length by omega), Option.getD_some] at this
  rw [this] at hp
  exact absurd hp (by decide)
theorem lt_succP {p : Nat → Prop} {m : Nat} (h : ∀ j, j < m → p j) (hm : p m) : ∀ j, j < m + 1 → p j := by
  intro j hj
  rcases Nat.lt_or_ge j m with h1 | h1
  · exact h j h1
  · obtain rfl : j = m := by omega
    exact hm
set_option maxRecDepth 100000 in
set_option maxHeartbeats 4000000 in
theorem rSpents {zs : List (Int × Int)} {c : Int} (hc : spE zs = c) (v : Value) (w : World) (hv : PSl w v zs) :
    Calls Tryd.prog 30 #[v] w fun e w' => e = .returned (.int .i64 c) ∧ Below w.heap.size w w' := by
  obtain ⟨hl, ⟨rfl, a, cp, rfl⟩ | ⟨b, off, cp, rfl, hcp, hb, hpc⟩⟩ := hv
  · obtain rfl : c = 0 := by rw [← hc]; rfl
    clear hc
    go_enter Tryd.func30, Tryd.ntmps30
    go_wp2
    go_rounds 1
    go_ret
    exact ⟨rfl, Below.refl _ _⟩
  · by_cases h16 : 16 < zs.length
    · obtain rfl : c = 4 := by rw [← hc]; unfold spE; rw [if_pos h16]
      clear hc hpc
      obtain ⟨n, hn⟩ : ∃ n, n = zs.length := ⟨_, rfl⟩
      rw [← hn] at hl hcp h16 ⊢
      clear hn
      go_enter Tryd.func30, Tryd.ntmps30
      go_wp2
      go_ret
      exact ⟨rfl, Below.refl _ _⟩
    · unfold spE at hc
      rw [if_neg h16] at hc
      obtain ⟨n, hn⟩ : ∃ n, n = zs.length := ⟨_, rfl⟩
      have HPC := hide hpc
      have HC0 := hide hc
      rw [← hn] at hl hcp h16 ⊢
      have Hn := hide hn
      have h16' : n ≤ 16 := by omega
      clear hn hpc hc h16
      go_enter Tryd.func30, Tryd.ntmps30
      go_wp2_with fail
      go_loopw [3] (fun i wr => ∃ k : Nat, i = .int .i64 (k : Int) ∧ k ≤ n ∧ Hid (spF (zs.take k) (zs.drop k) = c) ∧ Below w.heap.size w wr) (fun i _ => 100 - (intOf i).toNat)
      case atStart => exact ⟨0, rfl, by omega, by simpa using HC0, Below.refl _ _⟩
      case round =>
        obtain ⟨k, rfl, hk, hf, hbw⟩ := hrel
        obtain ⟨wi, rfl⟩ : ∃ x, x = wr := ⟨wr, rfl⟩
        by_cases hlt : k < n
        · have hkz : k < zs.length := by rw [← Hn.out]; exact hlt
          have hpw := HPC.out.below hb hbw
          obtain ⟨q0, q1⟩ := hpw k hkz
          have hF := hf.out
          rw [drop_consP zs k hkz] at hF
          have hF1 : (if (inB (zs.getD k (0, 0)).1 && tmB (zs.getD k (0, 0)).2) = false then (1 : Int) else if (zs.take k).any (fun y => y.1 == (zs.getD k (0, 0)).1) = true then 7 else spF (zs.take k ++ [zs.getD k (0, 0)]) (zs.drop (k + 1))) = c := hF
          rw [← take_snocP zs k hkz] at hF1
          obtain ⟨y, hy⟩ : ∃ y, y = zs.getD k (0, 0) := ⟨_, rfl⟩
          rw [← hy] at q0 q1 hF1
          obtain ⟨y1, y2⟩ := y
          simp only at q0 q1 hF1
          obtain ⟨vi, hvi⟩ : ∃ v, inB y1 = v := ⟨_, rfl⟩
          obtain ⟨vt, hvt⟩ : ∃ v, tmB y2 = v := ⟨_, rfl⟩
          have IN := hide (fun W => rIn_eq hvi W)
          have TU := hide (fun W => rTime_eq hvt W)
          have hbl : b < wi.heap.size := Nat.lt_of_lt_of_le hb hbw.size
          rw [hvi, hvt] at hF1
          have HF := hide hF1
          have HBW := hide hbw
          have HPW := hide hpw
          have Q0 := hide q0
          clear hy hF hF1 hpw hvi hvt hf hbw
          cases vi
          · obtain rfl : c = 1 := by have := HF.out; rw [if_pos (by simp)] at this; exact this.symm
            go_wp2_with fail
            refine (IN.out _).mono ?_
            rintro e w1 ⟨rfl, rfl⟩
            go_wp2_with fail
            refine (TU.out _).mono ?_
            rintro e w1 ⟨rfl, rfl⟩
            go_wp2
            go_ret
            exact ⟨rfl, HBW.out⟩
          · cases vt
            · obtain rfl : c = 1 := by have := HF.out; rw [if_pos (by simp)] at this; exact this.symm
              go_wp2_with fail
              refine (IN.out _).mono ?_
              rintro e w1 ⟨rfl, rfl⟩
              go_wp2_with fail
              refine (TU.out _).mono ?_
              rintro e w1 ⟨rfl, rfl⟩
              go_wp2
              go_ret
              exact ⟨rfl, HBW.out⟩
            · go_wp2_with fail
              refine (IN.out _).mono ?_
              rintro e w1 ⟨rfl, rfl⟩
              go_wp2_with fail
              refine (TU.out _).mono ?_
              rintro e w1 ⟨rfl, rfl⟩
              go_wp2_with fail
              go_loopw [6] (fun j ww => ∃ m : Nat, j = .int .i64 (m : Int) ∧ m ≤ k ∧ Hid (∀ j, j < m → ((zs.getD j (0, 0)).1 == y1) = false) ∧ Below wi.heap.size wi ww) (fun j _ => 100 - (intOf j).toNat)
              case atStart => exact ⟨0, rfl, by omega, hide (fun j hj => by omega), Below.refl _ _⟩
              case round =>
                obtain ⟨m, rfl, hm, hno, hbi⟩ := hrel
                have HBI := hide hbi
                by_cases hmk : m < k
                · have hmz : m < zs.length := by omega
                  obtain ⟨r0, r1⟩ := HPW.out.below hbl hbi m hmz
                  have s0 := (hbi.cell (p := ⟨b, off + k * 2, none⟩) hbl).trans Q0.out
                  obtain ⟨x, hx⟩ : ∃ x, x = zs.getD m (0, 0) := ⟨_, rfl⟩
                  rw [← hx] at r0 r1
                  obtain ⟨x1, x2⟩ := x
                  simp only at r0 r1
                  clear hbi q0 q1 r1
                  by_cases he : x1 = y1
                  · have te : (x1 == y1) = true := by simp [he]
                    have ha : (zs.take k).any (fun z => z.1 == y1) = true := any_takeP (Nat.le_of_lt hkz) hmk (by rw [← hx]; exact te)
                    obtain rfl : c = 7 := by have := HF.out; rw [if_neg (by simp), if_pos ha] at this; exact this.symm
                    clear hx ha he
                    go_wp2_with fail
                    go_quiet (fail)
                    go_wp2
                    go_ret
                    exact ⟨rfl, by have q := HBW.out.trans (HBI.out.mono HBW.out.size); first | exact q | exact bel_drewN q _ | exact q.drew⟩
                  · have te : (x1 == y1) = false := beq_eq_false_iff_ne.2 he
                    have HX : Hid (((zs.getD m (0, 0)).1 == y1) = false) := hide (by rw [← hx]; exact te)
                    clear hx he
                    go_wp2_with fail
                    go_quiet (fail)
                    go_wp2
                    go_roundw
                    case rel => exact ⟨m + 1, by go_num, by omega, hide (lt_succP hno.out HX.out), by first | exact HBI.out | exact bel_drewN HBI.out _ | exact HBI.out.drew⟩
                    case measure => simp [intOf] <;> omega
                · obtain rfl : m = k := by omega
                  have ha : (zs.take m).any (fun z => z.1 == y1) = false := any_takeP_no (Nat.le_of_lt hkz) hno.out
                  have hN := HF.out
                  rw [if_neg (by simp), if_neg (by rw [ha]; simp)] at hN
                  have HN := hide hN
                  clear hN ha q0 q1 hbi
                  go_wp2
                  go_roundw
                  case rel => exact ⟨m + 1, by go_num, by omega, HN, HBW.out.trans (HBI.out.mono HBW.out.size)⟩
                  case measure => simp [intOf] <;> omega
        · obtain rfl : k = n := by omega
          obtain rfl : c = 0 := by have := hf.out; rw [Hn.out, List.drop_length] at this; exact this.symm
          go_wp2
          go_ret
          exact ⟨rfl, hbw⟩
end Go.Proofs.YtfehnfbmlomccaaDoor
