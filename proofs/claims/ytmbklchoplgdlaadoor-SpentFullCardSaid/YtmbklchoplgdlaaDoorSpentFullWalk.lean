/- The walk of SpentFull. -/
import Derived.Test.YtmbklchoplgdlaaDoorSpSpend
import Derived.Test.YtmbklchoplgdlaaDoorVault
import Derived.Test.YtmbklchoplgdlaaDoorErr
namespace Go.Proofs.YtmbklchoplgdlaaDoor
open Go.RowKit

/-- the first k numbers, till 10 -/
def zk (k : Nat) : List (Int × Int) := (List.range k).map fun (j : Nat) => ((j : Int), (10 : Int))
theorem zk_len (k : Nat) : (zk k).length = k := by simp [zk]
theorem zk_succ (k : Nat) : zk k ++ [((k : Int), 10)] = zk (k + 1) := by simp [zk, List.range_succ]
theorem zk_ok : ∀ k : Nat, k ≤ 16 → spE (zk k) = 0 := by decide +kernel
theorem zk_more : ∀ k : Nat, k < 16 → spMoreE (zk k) (k : Int) 10 5 = 0 := by decide +kernel
theorem zk_full : ∀ k : Nat, k < 20 → 16 ≤ k → spMoreE (zk 16) (k : Int) 10 5 = 4 := by decide +kernel
theorem zk_last : ∀ k : Nat, k ≤ 16 → spMoreE (zk k) 99 20 11 = 0 := by decide +kernel
theorem zk_drop (k : Nat) : spDrop (zk k) 5 = zk k := by
  unfold spDrop zk
  rw [List.filter_eq_self]
  intro x hx
  obtain ⟨j, _, rfl⟩ := List.mem_map.1 hx
  rfl
theorem zk_gone (k : Nat) : spDrop (zk k) 11 = [] := by
  unfold spDrop zk
  rw [List.filter_eq_nil_iff]
  intro x hx
  obtain ⟨j, _, rfl⟩ := List.mem_map.1 hx
  simp
theorem sf_ok (k : Nat) (hk : k < 16) (v : Value) (w : World) (hv : PSl w v (zk k)) :
    Calls Tryd.prog 28 #[v, .int .i64 (k : Int), .int .i64 10, .int .i64 5] w fun e w' => ∃ v', e = .returned (.tuple #[v', .nilIface]) ∧ PSl w' v' (zk (k + 1)) ∧ Below w.heap.size w w' := by
  refine (spSpend_ok (zk_ok k (by omega)) (zk_more k hk) v w hv).mono fun e w' ⟨v', he, ho, hb⟩ => ?_
  rw [zk_drop, zk_succ] at ho
  exact ⟨v', he, own_psl ho (by rw [zk_len]; omega), hb⟩
theorem sf_full (k : Nat) (hk : 16 ≤ k) (hk2 : k < 20) (v : Value) (w : World) (hv : PSl w v (zk 16)) :
    Calls Tryd.prog 28 #[v, .int .i64 (k : Int), .int .i64 10, .int .i64 5] w fun e w' => e = .returned (.tuple #[.slice none 0 0, .iface 82 (.int .i64 4)]) ∧ Below w.heap.size w w' :=
  spSpend_bad (c := 4) (zk_ok 16 (by omega)) (zk_full k hk2 hk) (by decide) v w hv
theorem sf_last (k : Nat) (hk : k ≤ 16) (v : Value) (w : World) (hv : PSl w v (zk k)) :
    Calls Tryd.prog 28 #[v, .int .i64 99, .int .i64 20, .int .i64 11] w fun e w' => ∃ a c, e = .returned (.tuple #[.slice a 1 c, .nilIface]) ∧ Below w.heap.size w w' := by
  refine (spSpend_ok (zk_ok k hk) (zk_last k hk) v w hv).mono fun e w' ⟨v', he, ho, hb⟩ => ?_
  rw [zk_gone] at ho
  obtain ⟨a, c, rfl⟩ := own_sl ho
  exact ⟨a, c, he, hb⟩
set_option maxRecDepth 100000 in
set_option maxHeartbeats 4000000 in
theorem walkSpentFull (w : World) (many : Int) (_w0 : (Lit.int .i64 many).wf = true) (hE : ErrT w) :
    Calls Tryd.prog 6 #[.int .i64 many] w fun e w' => e = .returned (.bool true) ∧ Below w.heap.size w w' := by
  clear _w0
  go_enter Tryd.func6, Tryd.ntmps6
  go_wp2_with fail
  go_loopw [3, 4] (fun v i wr => ∃ k kk : Nat, i = .int .i64 (k : Int) ∧ k ≤ 20 ∧ kk ≤ 16 ∧ (k < 16 → kk = k) ∧ (16 ≤ k → kk = 16) ∧ Hid (PSl wr v (zk kk)) ∧ Below w.heap.size w wr) (fun _ i _ => 100 - (intOf i).toNat)
  case atStart => exact ⟨0, 0, rfl, by omega, by omega, fun _ => rfl, fun h => by omega, hide ⟨by simp [zk], .inl ⟨rfl, none, 0, rfl⟩⟩, Below.refl _ _⟩
  case round =>
    obtain ⟨k, kk, rfl, hk, hkk, hk1, hk2, hv, hb⟩ := hrel
    have hyr : w.heap.size ≤ wr.heap.size := hb.size
    by_cases h1 : (k : Int) < many
    · by_cases h2 : k < 20
      · by_cases h16 : k < 16
        · have hkk' : kk = k := hk1 h16
          subst hkk'
          have C := hide (sf_ok kk h16 _ wr hv.out)
          clear hv hk1 hk2
          go_wp2_with fail
          refine C.out.mono ?_
          rintro e w1 ⟨v', rfl, hv1, hb1⟩
          have HV1 := hide hv1
          have HB1 := hide (hb.trans (hb1.mono hyr))
          clear hv1 hb1
          go_wp2
          go_roundw
          case rel => exact ⟨kk + 1, kk + 1, by go_num, by omega, by omega, fun _ => rfl, fun h => by omega, HV1, HB1.out⟩
          case measure => simp [intOf] <;> omega
        · have hkk' : kk = 16 := hk2 (by omega)
          subst hkk'
          have h16' : 16 ≤ k := by omega
          have C := hide (sf_full k h16' h2 _ wr hv.out)
          clear hk1 hk2 h16
          go_wp2_with fail
          refine C.out.mono ?_
          rintro e w1 ⟨rfl, hb1⟩
          have HV1 := hide (hv.out.below hb1)
          have HB1 := hide (hb.trans (hb1.mono hyr))
          clear hb1
          go_wp2_with fail
          refine (error_any 4 4 _ (hE.below (B := w.heap.size) HB1.out hE.pos)).mono ?_
          rintro e w2 ⟨rfl, hb2⟩
          have HV2 := hide (HV1.out.below hb2)
          have HB2 := hide (HB1.out.trans (hb2.mono HB1.out.size))
          clear hb2 HV1
          go_wp2
          go_roundw
          case rel => exact ⟨k + 1, 16, by go_num, by omega, by omega, fun h => by omega, fun _ => rfl, HV2, HB2.out⟩
          case measure => simp [intOf] <;> omega
      · have h2' : 20 ≤ k := by omega
        have C := hide (sf_last kk hkk _ wr hv.out)
        clear hv h2
        go_wp2_with fail
        refine C.out.mono ?_
        rintro e w1 ⟨a, c, rfl, hb1⟩
        have HB1 := hide (hb.trans (hb1.mono hyr))
        clear hb1
        go_wp2
        go_ret
        exact ⟨rfl, HB1.out⟩
    · have h1' : many ≤ (k : Int) := by omega
      have C := hide (sf_last kk hkk _ wr hv.out)
      clear hv h1
      go_wp2_with fail
      refine C.out.mono ?_
      rintro e w1 ⟨a, c, rfl, hb1⟩
      have HB1 := hide (hb.trans (hb1.mono hyr))
      clear hb1
      go_wp2
      go_ret
      exact ⟨rfl, HB1.out⟩
end Go.Proofs.YtmbklchoplgdlaaDoor
