/- slices.Index, Contains at []api.Conn; foldsame.Conns; foldref2.Queue.Place: by contracts. -/
import Derived.Test.YtlnehoedflbifaaQRow
namespace Go.Proofs.Ytlnehoedflbifaa
open Go.RowKit

/-- is it that conn? -/
def cnP (s n : Int) : Int × Int → Bool := fun y => y.1 == s && y.2 == n
theorem lt_succQ {p : Nat → Prop} {m : Nat} (h : ∀ j, j < m → p j) (hm : p m) : ∀ j, j < m + 1 → p j := by
  intro j hj
  rcases Nat.lt_or_ge j m with h1 | h1
  · exact h j h1
  · obtain rfl : j = m := by omega
    exact hm
set_option maxHeartbeats 4000000 in
theorem cnIndex (s n : Int) (v : Value) (zs : List (Int × Int)) (w : World) (hv : PSl w v zs) :
    Calls Try.prog 51 #[v, .agg #[.int .i64 s, .int .i64 n]] w fun e w' => e = .returned (.int .i64 (idxP (cnP s n) zs)) ∧ Below w.heap.size w w' := by
  obtain ⟨hl, ⟨rfl, a, c, rfl⟩ | ⟨b, off, c, rfl, hc, hb, hpc⟩⟩ := hv
  · go_enter Try.func51, Try.ntmps51
    go_wp2
    go_rounds 1
    go_ret
    exact ⟨rfl, by go_grown⟩
  · obtain ⟨m, hn⟩ : ∃ m, m = zs.length := ⟨_, rfl⟩
    rw [← hn] at hl hc ⊢
    have Hn := hide hn
    have HPC := hide hpc
    clear hn hpc
    go_enter Try.func51, Try.ntmps51
    go_wp2_with fail
    go_loopw [8] (fun i wr => ∃ k : Nat, i = .int .i64 (k : Int) ∧ k ≤ m ∧ Hid (∀ j, j < k → cnP s n (zs.getD j (0, 0)) = false) ∧ ObjAt wr w.heap.size 35 [.int .i64 s, .int .i64 n] ∧ Below w.heap.size w wr) (fun i _ => 2000 - (intOf i).toNat)
    case atStart => exact ⟨0, rfl, by omega, hide (fun j hj => by omega), ObjAt.new _ _ _, (Below.refl _ _).alloc (Nat.le_refl _) _⟩
    case round =>
      obtain ⟨k, rfl, hk, hall, ho, hbw⟩ := hrel
      have HO := hide ho
      have HBW := hide hbw
      have t0 := ho.cell (i := 0) rfl
      have t1 := ho.cell (i := 1) rfl
      by_cases hlt : k < m
      · have hkz : k < zs.length := by rw [← Hn.out]; exact hlt
        obtain ⟨q0, q1⟩ := HPC.out.below hb hbw k hkz
        have HK := hide hkz
        obtain ⟨y, hy⟩ : ∃ y, y = zs.getD k (0, 0) := ⟨_, rfl⟩
        rw [← hy] at q0 q1
        have HY := hide hy
        obtain ⟨y1, y2⟩ := y
        simp only at q0 q1
        clear hy hkz ho hbw
        by_cases h1 : y1 = s
        · by_cases h2 : y2 = n
          · have hp : cnP s n (zs.getD k (0, 0)) = true := by rw [← HY.out]; simp [cnP, h1, h2]
            have HI := hide (idxP_hit HK.out hp hall.out)
            subst h1
            subst h2
            clear hp
            go_wp2_with fail
            go_quiet (fail)
            go_wp2
            go_ret
            exact ⟨by rw [HI.out]; rfl, by first | exact HBW.out | exact bel_drewN HBW.out _ | exact HBW.out.drew⟩
          · have hp : cnP s n (zs.getD k (0, 0)) = false := by rw [← HY.out]; simp [cnP, h2]
            have HA := hide (lt_succQ hall.out hp)
            have e1 : (s == y1) = true := by simp [h1]
            have e2 : (n == y2) = false := beq_eq_false_iff_ne.2 (Ne.symm h2)
            clear hp h2 h1
            go_wp2_with fail
            go_quiet (fail)
            go_wp2
            go_roundw
            case rel => exact ⟨k + 1, by go_num, by omega, HA, by first | exact HO.out | exact HO.out.drewN _ | exact HO.out.drew, by first | exact HBW.out | exact bel_drewN HBW.out _ | exact HBW.out.drew⟩
            case measure => simp [intOf] <;> omega
        · have hp : cnP s n (zs.getD k (0, 0)) = false := by rw [← HY.out]; simp [cnP, h1]
          have HA := hide (lt_succQ hall.out hp)
          have e1 : (s == y1) = false := beq_eq_false_iff_ne.2 (Ne.symm h1)
          clear hp h1
          go_wp2_with fail
          go_quiet (fail)
          go_wp2
          go_roundw
          case rel => exact ⟨k + 1, by go_num, by omega, HA, by first | exact HO.out | exact HO.out.drewN _ | exact HO.out.drew, by first | exact HBW.out | exact bel_drewN HBW.out _ | exact HBW.out.drew⟩
          case measure => simp [intOf] <;> omega
      · have HI := hide (idxP_miss (p := cnP s n) (zs := zs) (fun j hj => hall.out j (by have := Hn.out; omega)))
        have hge : (m : Int) ≤ k := by omega
        clear HPC ho hall
        go_wp2
        go_ret
        exact ⟨by rw [HI.out]; rfl, hbw⟩
theorem cnContains (s n : Int) (v : Value) (zs : List (Int × Int)) (w : World) (hv : PSl w v zs) :
    Calls Try.prog 48 #[v, .agg #[.int .i64 s, .int .i64 n]] w fun e w' => e = .returned (.bool (zs.any (cnP s n))) ∧ Below w.heap.size w w' := by
  have C := hide (fun W (hW : Below w.heap.size w W) => cnIndex s n v zs W (hv.below hW))
  have e := idxP_any (cnP s n) zs
  rw [← e]
  clear e hv
  generalize idxP (cnP s n) zs = i at C ⊢
  go_enter Try.func48, Try.ntmps48
  go_wp2_with fail
  refine (C.out _ ((Below.refl _ _).alloc (Nat.le_refl _) _)).mono ?_
  rintro e w1 ⟨rfl, hb1⟩
  go_wp2
  go_ret
  exact ⟨rfl, bel_a1 hb1⟩
end Go.Proofs.Ytlnehoedflbifaa
