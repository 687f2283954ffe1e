/- spent: Check, Spend by contracts. -/
import Derived.Test.YtgmljcpeklpniaaDoorSpMore
import Derived.Deep.RegionHeld3
namespace Go.Proofs.YtgmljcpeklpniaaDoor
open Go.RowKit

/-- the fault of some behind some -/
def spF (pre : List (Int × Int)) : List (Int × Int) → Int
  | [] => 0
  | x :: l => if (inB x.1 && tmB x.2) = false then 1 else if pre.any (fun y => y.1 == x.1) = true then 7 else spF (pre ++ [x]) l
/-- the fault of some -/
def spE (zs : List (Int × Int)) : Int := if 16 < zs.length then 4 else spF [] zs
theorem drop_consP (zs : List (Int × Int)) (k : Nat) (hk : k < zs.length) : zs.drop k = zs.getD k (0, 0) :: zs.drop (k + 1) := by
  rw [List.drop_eq_getElem_cons hk]; simp [List.getD, List.getElem?_eq_getElem hk]
theorem psl_take {w : World} {b off c k : Nat} {zs : List (Int × Int)} (hl : zs.length ≤ 1000) (hk : k ≤ zs.length) (hc : zs.length ≤ c) (hb : b < w.heap.size) (h : PC w b off zs) : PSl w (.slice (some ⟨b, off, none⟩) k c) (zs.take k) := by
  have hlen : (zs.take k).length = k := by rw [List.length_take]; omega
  refine ⟨by omega, .inr ⟨b, off, c, by rw [hlen], by omega, hb, fun j hj => ?_⟩⟩
  have := h j (by omega)
  have e : (zs.take k).getD j (0, 0) = zs.getD j (0, 0) := by
    simp only [List.getD]
    rw [List.getElem?_take_of_lt (by omega)]
  rw [e]; exact this
set_option maxRecDepth 100000 in
set_option maxHeartbeats 4000000 in
theorem spCheck {zs : List (Int × Int)} {c : Int} (hc : spE zs = c) (v : Value) (w : World) (hv : PSl w v zs) :
    Calls Tryd.prog 25 #[v] w fun e w' => e = .returned (errV c) ∧ Below w.heap.size w w' := by
  obtain ⟨hl, ⟨rfl, a, cp, rfl⟩ | ⟨b, off, cp, rfl, hcp, hb, hpc⟩⟩ := hv
  · obtain rfl : c = 0 := by rw [← hc]; rfl
    clear hc
    go_enter Tryd.func25, Tryd.ntmps25
    go_wp2
    go_rounds 1
    go_ret
    exact ⟨rfl, Below.refl _ _⟩
  · by_cases h16 : 16 < zs.length
    · obtain rfl : c = 4 := by rw [← hc]; unfold spE; rw [if_pos h16]
      clear hc hpc
      obtain ⟨n, hn⟩ : ∃ n, n = zs.length := ⟨_, rfl⟩
      rw [← hn] at hl hcp h16 ⊢
      clear hn
      go_enter Tryd.func25, Tryd.ntmps25
      go_wp2
      go_ret
      exact ⟨rfl, Below.refl _ _⟩
    · unfold spE at hc
      rw [if_neg h16] at hc
      obtain ⟨n, hn⟩ : ∃ n, n = zs.length := ⟨_, rfl⟩
      have HPC := hide hpc
      have HC0 := hide hc
      have HLZ := hide hl
      have HCP := hide hcp
      rw [← hn] at hl hcp h16 ⊢
      have Hn := hide hn
      have h16' : n ≤ 16 := by omega
      clear hn hpc hc h16
      go_enter Tryd.func25, Tryd.ntmps25
      go_wp2_with fail
      go_loopw [11] (fun i wr => ∃ k : Nat, i = .int .i64 (k : Int) ∧ k ≤ n ∧ Hid (spF (zs.take k) (zs.drop k) = c) ∧ Below w.heap.size w wr) (fun i _ => 100 - (intOf i).toNat)
      case atStart => exact ⟨0, rfl, by omega, by simpa using HC0, Below.refl _ _⟩
      case round =>
        obtain ⟨k, rfl, hk, hf, hbw⟩ := hrel
        by_cases hlt : k < n
        · have hkz : k < zs.length := by rw [← Hn.out]; exact hlt
          have hpw := HPC.out.below hb hbw
          obtain ⟨q0, q1⟩ := hpw k hkz
          have hF := hf.out
          rw [drop_consP zs k hkz] at hF
          have hF1 : (if (inB (zs.getD k (0, 0)).1 && tmB (zs.getD k (0, 0)).2) = false then (1 : Int) else if (zs.take k).any (fun y => y.1 == (zs.getD k (0, 0)).1) = true then 7 else spF (zs.take k ++ [zs.getD k (0, 0)]) (zs.drop (k + 1))) = c := hF
          rw [← take_snocP zs k hkz] at hF1
          obtain ⟨y, hy⟩ : ∃ y, y = zs.getD k (0, 0) := ⟨_, rfl⟩
          rw [← hy] at q0 q1 hF1
          obtain ⟨y1, y2⟩ := y
          simp only at q0 q1 hF1
          obtain ⟨vi, hvi⟩ : ∃ v, inB y1 = v := ⟨_, rfl⟩
          obtain ⟨vt, hvt⟩ : ∃ v, tmB y2 = v := ⟨_, rfl⟩
          have IN := hide (fun W => tagIn_eq hvi W)
          have TU := hide (fun W => tokenTime_eq hvt W)
          obtain ⟨va, hva⟩ : ∃ v, (zs.take k).any (fun z => z.1 == y1) = v := ⟨_, rfl⟩
          have hbl : b < wr.heap.size := Nat.lt_of_lt_of_le hb hbw.size
          have IS : Hid (∀ W, Below wr.heap.size wr W → Calls Tryd.prog 44 #[.slice (some ⟨b, off, none⟩) k cp, .int .i64 y1] W fun e w' => e = .returned (.bool va) ∧ Below W.heap.size W w') := by
            intro W hW
            have q := spIs y1 _ _ W ((psl_take HLZ.out (Nat.le_of_lt hkz) HCP.out hbl hpw).below hW)
            rw [hva] at q
            exact q
          rw [hvi, hvt, hva] at hF1
          have HF := hide hF1
          have hkc : k ≤ cp := by omega
          have hne : b ≠ wr.heap.size := by omega
          have HBW := hide hbw
          clear hy hF hF1 hpw hvi hvt hva hkz hf
          cases vi
          · obtain rfl : c = 1 := by have := HF.out; rw [if_pos (by simp)] at this; exact this.symm
            go_wp2_with fail
            refine (IN.out _).mono ?_
            rintro e w1 ⟨rfl, rfl⟩
            go_wp2
            go_ret
            exact ⟨rfl, HBW.out.alloc HBW.out.size _⟩
          · cases vt
            · obtain rfl : c = 1 := by have := HF.out; rw [if_pos (by simp)] at this; exact this.symm
              go_wp2_with fail
              refine (IN.out _).mono ?_
              rintro e w1 ⟨rfl, rfl⟩
              go_wp2_with fail
              refine (TU.out _).mono ?_
              rintro e w1 ⟨rfl, rfl⟩
              go_wp2
              go_ret
              exact ⟨rfl, HBW.out.alloc HBW.out.size _⟩
            · go_wp2_with fail
              refine (IN.out _).mono ?_
              rintro e w1 ⟨rfl, rfl⟩
              go_wp2_with fail
              refine (TU.out _).mono ?_
              rintro e w1 ⟨rfl, rfl⟩
              go_wp2_with fail
              go_region_held3 (fun w' => w'.cell? ⟨wr.heap.size, 0, none⟩ = some (.int .i64 y1)) (first | assumption | go_keep)
                (first | (go_at_call 44; refine (IS.out _ (by go_grown)).mono ?_; rintro e w2 ⟨rfl, hb2⟩; have hcw : w2.cell? ⟨wr.heap.size, 0, none⟩ = some (.int .i64 y1) := (hb2.cell (p := ⟨wr.heap.size, 0, none⟩) (by simp)).trans (by simp); have hB2 : Below wr.heap.size wr w2 := Below.trans (by go_grown) (hb2.mono (by simp))))
              cases va
              · have hN := HF.out
                rw [if_neg (by simp), if_neg (by simp)] at hN
                have HN := hide hN
                have HB2 := hide (HBW.out.trans (hB2.mono HBW.out.size))
                clear hb2 hcw hB2 hN
                go_wp2
                go_roundw
                case rel => exact ⟨k + 1, by go_num, by omega, HN, HB2.out⟩
                case measure => simp [intOf] <;> omega
              · obtain rfl : c = 7 := by have := HF.out; rw [if_neg (by simp), if_pos rfl] at this; exact this.symm
                have HB2 := hide (HBW.out.trans (hB2.mono HBW.out.size))
                clear hb2 hcw hB2
                go_wp2
                go_ret
                exact ⟨rfl, HB2.out⟩
        · obtain rfl : k = n := by omega
          obtain rfl : c = 0 := by have := hf.out; rw [Hn.out, List.drop_length] at this; exact this.symm
          go_wp2
          go_ret
          exact ⟨rfl, hbw⟩
end Go.Proofs.YtgmljcpeklpniaaDoor
