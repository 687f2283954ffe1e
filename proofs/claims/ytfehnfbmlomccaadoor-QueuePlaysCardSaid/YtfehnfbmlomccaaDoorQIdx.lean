/- slices.Index, Contains at []api.Conn; foldsame.Conns; foldref2.Queue.Place: by contracts. -/
import Derived.Test.YtfehnfbmlomccaaDoorQRow
namespace Go.Proofs.YtfehnfbmlomccaaDoor
open Go.RowKit

/-- is it that conn? -/
def cnP (s n : Int) : Int × Int → Bool := fun y => y.1 == s && y.2 == n
theorem lt_succQ {p : Nat → Prop} {m : Nat} (h : ∀ j, j < m → p j) (hm : p m) : ∀ j, j < m + 1 → p j := by
  intro j hj
  rcases Nat.lt_or_ge j m with h1 | h1
  · exact h j h1
  · obtain rfl : j = m := by omega
    exact hm
set_option maxHeartbeats 4000000 in
theorem cnIndex (s n : Int) (v : Value) (zs : List (Int × Int)) (w : World) (hv : PSl w v zs) :
    Calls Tryd.prog 45 #[v, .agg #[.int .i64 s, .int .i64 n]] w fun e w' => e = .returned (.int .i64 (idxP (cnP s n) zs)) ∧ Below w.heap.size w w' := by
  obtain ⟨hl, ⟨rfl, a, c, rfl⟩ | ⟨b, off, c, rfl, hc, hb, hpc⟩⟩ := hv
  · go_enter Tryd.func45, Tryd.ntmps45
    go_wp2
    go_rounds 1
    go_ret
    exact ⟨rfl, by go_grown⟩
  · obtain ⟨m, hn⟩ : ∃ m, m = zs.length := ⟨_, rfl⟩
    rw [← hn] at hl hc ⊢
    have Hn := hide hn
    have HPC := hide hpc
    clear hn hpc
    go_enter Tryd.func45, Tryd.ntmps45
    go_wp2_with fail
    go_loopw [8] (fun i wr => ∃ k : Nat, i = .int .i64 (k : Int) ∧ k ≤ m ∧ Hid (∀ j, j < k → cnP s n (zs.getD j (0, 0)) = false) ∧ ObjAt wr w.heap.size 29 [.int .i64 s, .int .i64 n] ∧ Below w.heap.size w wr) (fun i _ => 2000 - (intOf i).toNat)
    case atStart => exact ⟨0, rfl, by omega, hide (fun j hj => by omega), ObjAt.new _ _ _, (Below.refl _ _).alloc (Nat.le_refl _) _⟩
    case round =>
      obtain ⟨k, rfl, hk, hall, ho, hbw⟩ := hrel
      have HO := hide ho
      have HBW := hide hbw
      have t0 := ho.cell (i := 0) rfl
      have t1 := ho.cell (i := 1) rfl
      by_cases hlt : k < m
      · have hkz : k < zs.length := by rw [← Hn.out]; exact hlt
        obtain ⟨q0, q1⟩ := HPC.out.below hb hbw k hkz
        have HK := hide hkz
        obtain ⟨y, hy⟩ : ∃ y, y = zs.getD k (0, 0) := ⟨_, rfl⟩
        rw [← hy] at q0 q1
        have HY := hide hy
        obtain ⟨y1, y2⟩ := y
        simp only at q0 q1
        clear hy hkz ho hbw
        by_cases h1 : y1 = s
        · by_cases h2 : y2 = n
          · have hp : cnP s n (zs.getD k (0, 0)) = true := by rw [← HY.out]; simp [cnP, h1, h2]
            have HI := hide (idxP_hit HK.out hp hall.out)
            subst h1
            subst h2
            clear hp
            go_wp2_with fail
            go_quiet (fail)
            go_wp2
            go_ret
            exact ⟨by rw [HI.out]; rfl, by first | exact HBW.out | exact bel_drewN HBW.out _ | exact HBW.out.drew⟩
          · have hp : cnP s n (zs.getD k (0, 0)) = false := by rw [← HY.out]; simp [cnP, h2]
            have HA := hide (lt_succQ hall.out hp)
            have e1 : (s == y1) = true := by simp [h1]
            have e2 : (n == y2) = false := beq_eq_false_iff_ne.2 (Ne.symm h2)
            clear hp h2 h1
            go_wp2_with fail
            go_quiet (fail)
            go_wp2
            go_roundw
            case rel => exact ⟨k + 1, by go_num, by omega, HA, by first | exact HO.out | exact HO.out.drewN _ | exact HO.out.drew, by first | exact HBW.out | exact bel_drewN HBW.out _ | exact HBW.out.drew⟩
            case measure => simp [intOf] <;> omega
        · have hp : cnP s n (zs.getD k (0, 0)) = false := by rw [← HY.out]; simp [cnP, h1]
          have HA := hide (lt_succQ hall.out hp)
          have e1 : (s == y1) = false := beq_eq_false_iff_ne.2 (Ne.symm h1)
          clear hp h1
          go_wp2_with fail
          go_quiet (fail)
          go_wp2
          go_roundw
          case rel => exact ⟨k + 1, by go_num, by omega, HA, by first | exact HO.out | exact HO.out.drewN _ | exact HO.out.drew, by first | exact HBW.out | exact bel_drewN HBW.out _ | exact HBW.out.drew⟩
          case measure => simp [intOf] <;> omega
      · have HI := hide (idxP_miss (p := cnP s n) (zs := zs) (fun j hj => hall.out j (by have := Hn.out; omega)))
        have hge : (m : Int) ≤ k := by omega
        clear HPC ho hall
        go_wp2
        go_ret
        exact ⟨by rw [HI.out]; rfl, hbw⟩
theorem cnContains (s n : Int) (v : Value) (zs : List (Int × Int)) (w : World) (hv : PSl w v zs) :
    Calls Tryd.prog 42 #[v, .agg #[.int .i64 s, .int .i64 n]] w fun e w' => e = .returned (.bool (zs.any (cnP s n))) ∧ Below w.heap.size w w' := by
  have C := hide (fun W (hW : Below w.heap.size w W) => cnIndex s n v zs W (hv.below hW))
  have e := idxP_any (cnP s n) zs
  rw [← e]
  clear e hv
  generalize idxP (cnP s n) zs = i at C ⊢
  go_enter Tryd.func42, Tryd.ntmps42
  go_wp2_with fail
  refine (C.out _ ((Below.refl _ _).alloc (Nat.le_refl _) _)).mono ?_
  rintro e w1 ⟨rfl, hb1⟩
  go_wp2
  go_ret
  exact ⟨rfl, bel_a1 hb1⟩
set_option maxHeartbeats 4000000 in
theorem sameConns {v1 v2 : Value} {zs : List (Int × Int)} (w : World) (h1 : PSl w v1 zs) (h2 : PSl w v2 zs) :
    Calls Tryd.prog 20 #[v1, v2] w fun e w' => e = .returned (.bool true) ∧ Below w.heap.size w w' := by
  by_cases h0 : zs = []
  · subst h0
    obtain ⟨a1, c1, rfl⟩ : ∃ a c, v1 = .slice a 0 c := by
      rcases h1.2 with ⟨_, a, c, rfl⟩ | ⟨b, off, c, rfl, _⟩
      · exact ⟨a, c, rfl⟩
      · exact ⟨_, c, rfl⟩
    obtain ⟨a2, c2, rfl⟩ : ∃ a c, v2 = .slice a 0 c := by
      rcases h2.2 with ⟨_, a, c, rfl⟩ | ⟨b, off, c, rfl, _⟩
      · exact ⟨a, c, rfl⟩
      · exact ⟨_, c, rfl⟩
    clear h1 h2
    go_enter Tryd.func20, Tryd.ntmps20
    go_wp2
    go_rounds 1
    go_ret
    exact ⟨rfl, Below.refl _ _⟩
  · have hl := h1.1
    obtain ⟨b1, o1, c1, rfl, hc1, hb1, hp1⟩ := h1.2.resolve_left (fun h => h0 h.1)
    obtain ⟨b2, o2, c2, rfl, hc2, hb2, hp2⟩ := h2.2.resolve_left (fun h => h0 h.1)
    obtain ⟨n, hn⟩ : ∃ n, n = zs.length := ⟨_, rfl⟩
    rw [← hn] at hc1 hc2 hl ⊢
    have Hn := hide hn
    have H1 := hide hp1
    have H2 := hide hp2
    clear h1 h2 h0 hp1 hp2 hn
    go_enter Tryd.func20, Tryd.ntmps20
    go_wp2
    go_loopw [5] (fun i wr => ∃ k : Nat, i = .int .i64 k ∧ k ≤ n ∧ Below w.heap.size w wr) (fun i _ => 2000 - (intOf i).toNat)
    case atStart => exact ⟨0, rfl, by omega, Below.refl _ _⟩
    case round =>
      obtain ⟨k, rfl, hk, hb⟩ := hrel
      by_cases hlt : k < n
      · have hkz : k < zs.length := by rw [← Hn.out]; exact hlt
        obtain ⟨p0, p1⟩ := H1.out.below hb1 hb k hkz
        obtain ⟨q0, q1⟩ := H2.out.below hb2 hb k hkz
        generalize zs.getD k (0, 0) = y at p0 p1 q0 q1
        obtain ⟨y1, y2⟩ := y
        simp only at p0 p1 q0 q1
        clear hkz
        go_wp2_with fail
        go_quiet (fail)
        go_wp2
        go_roundw
        case rel => exact ⟨k + 1, by go_num, by omega, by first | exact hb | exact hb.drew | exact bel_drewN hb _⟩
        case measure => simp [intOf] <;> omega
      · obtain rfl : k = n := by omega
        go_wp2
        go_ret
        exact ⟨rfl, hb⟩
end Go.Proofs.YtfehnfbmlomccaaDoor
