/- window: Take by contract. -/
import Derived.Test.YtgmljcpeklpniaaDoorWindow
import Derived.Test.YtgmljcpeklpniaaDoorObj4
import Derived.BigRegion
namespace Go.Proofs.YtgmljcpeklpniaaDoor
open Go.RowKit

/-- the fault of a number that comes -/
def winTE (T B n : Int) : Int := if winE T B ≠ 0 then winE T B else if tmB n = false then 1 else if T < n then 0 else if 32 ≤ T - n then 9 else if B / 2 ^ (T - n).toNat % 2 = 1 then 7 else 0
/-- the bits behind a number that is greater -/
def winUp (T : Int) (b : Nat) (n : Int) : Nat := if n - T < 32 then 1 ||| ((b <<< (n - T).toNat) &&& 4294967295) else 1
theorem winUp_le (T : Int) (b : Nat) (n : Int) : winUp T b n ≤ 4294967295 := by
  unfold winUp
  split
  · have h1 : (b <<< (n - T).toNat) &&& 4294967295 < 2 ^ 32 := Nat.and_lt_two_pow _ (by decide)
    have h2 := Nat.or_lt_two_pow (x := 1) (n := 32) (by decide) h1
    omega
  · omega
set_option maxHeartbeats 2000000 in
theorem windowTake_bad {T B n c : Int} (hc : winTE T B n = c) (h0 : c ≠ 0) (w : World) :
    Calls Tryd.prog 22 #[.agg #[.int .i64 T, .int .i64 B], .int .i64 n] w fun e w' => e = .returned (.tuple #[.agg #[.int .i64 0, .int .i64 0], errV c]) ∧ Below w.heap.size w w' := by
  by_cases hw : winE T B = 0
  · have CK : Hid (∀ W, Calls Tryd.prog 26 #[.agg #[.int .i64 T, .int .i64 B]] W fun e w' => e = .returned .nilIface ∧ Below W.heap.size W w') := hide (fun W => windowCheck (c := 0) hw W)
    obtain ⟨k1, k2, k3, k4, _, _⟩ := winE_ok hw
    unfold winTE at hc
    rw [if_neg (by simp [hw])] at hc
    cases ht : tmB n
    · rw [ht, if_pos rfl] at hc
      subst hc
      have TM := hide (fun W => tokenTime_eq ht W)
      clear hw ht h0
      go_enter Tryd.func22, Tryd.ntmps22
      go_wp2_with fail
      refine (CK.out _).mono ?_
      rintro e w1 ⟨rfl, hb1⟩
      have hB1 : Below w.heap.size w w1 := by
        refine Below.trans ?_ (Below.mono hb1 ?_)
        · go_grown
        · first | omega | (simp; done) | (simp; omega)
      have o1_b : ObjAt w1 (w.heap.size) 49 [.int .i64 T, .int .i64 B] := ObjAt.below (ObjAt.alloc (objNew (by simp)) _) hb1
      have o1_res : ObjAt w1 (w.heap.size + 1) 49 [.int .i64 0, .int .i64 0] := ObjAt.below (objNew (by simp)) hb1
      have q1_b_0 := o1_b.cell (i := 0) rfl
      have f1_b_0 := o1_b.free 0
      have q1_b_1 := o1_b.cell (i := 1) rfl
      have f1_b_1 := o1_b.free 1
      have l1_b := o1_b.lt
      have H1_b := hide o1_b
      clear o1_b
      have q1_res_0 := o1_res.cell (i := 0) rfl
      have f1_res_0 := o1_res.free 0
      have q1_res_1 := o1_res.cell (i := 1) rfl
      have f1_res_1 := o1_res.free 1
      have l1_res := o1_res.lt
      have H1_res := hide o1_res
      clear o1_res
      have hy1 : w.heap.size ≤ w1.heap.size := hB1.size
      clear hb1
      go_wp2_with fail
      refine (TM.out _).mono ?_
      rintro e w502 ⟨rfl, rfl⟩
      go_wp2
      exact bodyPost_ret (v := .tuple #[.agg #[.int .i64 0, .int .i64 0], .iface 60 (.int .i64 1)]) (by simp [results, Tryd.results22, go_sem, *]) rfl ⟨rfl, by go_grown⟩
    · have TM := hide (fun W => tokenTime_eq ht W)
      obtain ⟨n0, n1⟩ := tmB_true.1 ht
      rw [ht, if_neg (by simp)] at hc
      by_cases hlt : T < n
      · rw [if_pos hlt] at hc; exact absurd hc.symm h0
      · rw [if_neg hlt] at hc
        have hle : n ≤ T := by omega
        clear hlt
        by_cases h32 : 32 ≤ T - n
        · rw [if_pos h32] at hc
          subst hc
          clear hw ht h0
          go_enter Tryd.func22, Tryd.ntmps22
          go_wp2_with fail
          refine (CK.out _).mono ?_
          rintro e w1 ⟨rfl, hb1⟩
          have hB1 : Below w.heap.size w w1 := by
            refine Below.trans ?_ (Below.mono hb1 ?_)
            · go_grown
            · first | omega | (simp; done) | (simp; omega)
          have o1_b : ObjAt w1 (w.heap.size) 49 [.int .i64 T, .int .i64 B] := ObjAt.below (ObjAt.alloc (objNew (by simp)) _) hb1
          have o1_res : ObjAt w1 (w.heap.size + 1) 49 [.int .i64 0, .int .i64 0] := ObjAt.below (objNew (by simp)) hb1
          have q1_b_0 := o1_b.cell (i := 0) rfl
          have f1_b_0 := o1_b.free 0
          have q1_b_1 := o1_b.cell (i := 1) rfl
          have f1_b_1 := o1_b.free 1
          have l1_b := o1_b.lt
          have H1_b := hide o1_b
          clear o1_b
          have q1_res_0 := o1_res.cell (i := 0) rfl
          have f1_res_0 := o1_res.free 0
          have q1_res_1 := o1_res.cell (i := 1) rfl
          have f1_res_1 := o1_res.free 1
          have l1_res := o1_res.lt
          have H1_res := hide o1_res
          clear o1_res
          have hy1 : w.heap.size ≤ w1.heap.size := hB1.size
          clear hb1
          go_wp2_with fail
          refine (TM.out _).mono ?_
          rintro e w502 ⟨rfl, rfl⟩
          go_wp2
          exact bodyPost_ret (v := .tuple #[.agg #[.int .i64 0, .int .i64 0], .iface 60 (.int .i64 9)]) (by simp [results, Tryd.results22, go_sem, *]) rfl ⟨rfl, by go_grown⟩
        · rw [if_neg h32] at hc
          by_cases hb : B / 2 ^ (T - n).toNat % 2 = 1
          · rw [if_pos hb] at hc
            subst hc
            have hd0 : 0 ≤ B / 2 ^ (T - n).toNat := Int.ediv_nonneg k3 (Int.le_of_lt (Int.pow_pos (by decide)))
            have hd1 : B / 2 ^ (T - n).toNat ≤ B := Int.ediv_le_self _ k3
            obtain ⟨d, hd⟩ : ∃ d, B / 2 ^ (T - n).toNat = d := ⟨_, rfl⟩
            rw [hd] at hb hd0 hd1
            have hx := and_one_i64 d hd0 (by omega)
            rw [hb] at hx
            have h33 : T - n < 32 := by omega
            clear hw ht h0 h32 hb
            go_enter Tryd.func22, Tryd.ntmps22
            go_wp2_with fail
            refine (CK.out _).mono ?_
            rintro e w1 ⟨rfl, hb1⟩
            have hB1 : Below w.heap.size w w1 := by
              refine Below.trans ?_ (Below.mono hb1 ?_)
              · go_grown
              · first | omega | (simp; done) | (simp; omega)
            have o1_b : ObjAt w1 (w.heap.size) 49 [.int .i64 T, .int .i64 B] := ObjAt.below (ObjAt.alloc (objNew (by simp)) _) hb1
            have o1_res : ObjAt w1 (w.heap.size + 1) 49 [.int .i64 0, .int .i64 0] := ObjAt.below (objNew (by simp)) hb1
            have q1_b_0 := o1_b.cell (i := 0) rfl
            have f1_b_0 := o1_b.free 0
            have q1_b_1 := o1_b.cell (i := 1) rfl
            have f1_b_1 := o1_b.free 1
            have l1_b := o1_b.lt
            have H1_b := hide o1_b
            clear o1_b
            have q1_res_0 := o1_res.cell (i := 0) rfl
            have f1_res_0 := o1_res.free 0
            have q1_res_1 := o1_res.cell (i := 1) rfl
            have f1_res_1 := o1_res.free 1
            have l1_res := o1_res.lt
            have H1_res := hide o1_res
            clear o1_res
            have hy1 : w.heap.size ≤ w1.heap.size := hB1.size
            clear hb1
            go_wp2_with fail
            refine (TM.out _).mono ?_
            rintro e w502 ⟨rfl, rfl⟩
            go_wp2
            exact bodyPost_ret (v := .tuple #[.agg #[.int .i64 0, .int .i64 0], .iface 60 (.int .i64 7)]) (by simp [results, Tryd.results22, go_sem, *]) rfl ⟨rfl, by go_grown⟩
          · rw [if_neg hb] at hc; exact absurd hc.symm h0
  · unfold winTE at hc
    rw [if_pos hw] at hc
    have CK := hide (fun W => windowCheck hc W)
    have t1 : (c != 0) = true := bne_iff_ne.2 h0
    clear hc h0 hw
    go_enter Tryd.func22, Tryd.ntmps22
    go_wp2_with fail
    refine (CK.out _).mono ?_
    rintro e w1 ⟨rfl, hb1⟩
    have hB1 : Below w.heap.size w w1 := by
      refine Below.trans ?_ (Below.mono hb1 ?_)
      · go_grown
      · first | omega | (simp; done) | (simp; omega)
    have o1_b : ObjAt w1 (w.heap.size) 49 [.int .i64 T, .int .i64 B] := ObjAt.below (ObjAt.alloc (objNew (by simp)) _) hb1
    have o1_res : ObjAt w1 (w.heap.size + 1) 49 [.int .i64 0, .int .i64 0] := ObjAt.below (objNew (by simp)) hb1
    have q1_b_0 := o1_b.cell (i := 0) rfl
    have f1_b_0 := o1_b.free 0
    have q1_b_1 := o1_b.cell (i := 1) rfl
    have f1_b_1 := o1_b.free 1
    have l1_b := o1_b.lt
    have H1_b := hide o1_b
    clear o1_b
    have q1_res_0 := o1_res.cell (i := 0) rfl
    have f1_res_0 := o1_res.free 0
    have q1_res_1 := o1_res.cell (i := 1) rfl
    have f1_res_1 := o1_res.free 1
    have l1_res := o1_res.lt
    have H1_res := hide o1_res
    clear o1_res
    have hy1 : w.heap.size ≤ w1.heap.size := hB1.size
    clear hb1
    go_wp2
    exact bodyPost_ret (v := .tuple #[.agg #[.int .i64 0, .int .i64 0], errV c]) (by simp [results, Tryd.results22, go_sem, *]) rfl ⟨rfl, by go_grown⟩
set_option maxHeartbeats 2000000 in
theorem windowTake_up {T n : Int} {b : Nat} (hw : winE T b = 0) (ht : tmB n = true) (hlt : T < n) (w : World) :
    Calls Tryd.prog 22 #[.agg #[.int .i64 T, .int .i64 (b : Int)], .int .i64 n] w fun e w' => e = .returned (.tuple #[.agg #[.int .i64 n, .int .i64 ((winUp T b n : Nat) : Int)], .nilIface]) ∧ Below w.heap.size w w' := by
  have CK : Hid (∀ W, Calls Tryd.prog 26 #[.agg #[.int .i64 T, .int .i64 (b : Int)]] W fun e w' => e = .returned .nilIface ∧ Below W.heap.size W w') := hide (fun W => windowCheck (c := 0) hw W)
  obtain ⟨k1, k2, k3, k4, _, _⟩ := winE_ok hw
  have TM := hide (fun W => tokenTime_eq ht W)
  obtain ⟨n0, n1⟩ := tmB_true.1 ht
  by_cases h32 : n - T < 32
  · have hu : winUp T b n = 1 ||| ((b <<< (n - T).toNat) &&& 4294967295) := by unfold winUp; rw [if_pos h32]
    have e1 : (b : Int) * 2 ^ (n - T).toNat = ((b <<< (n - T).toNat : Nat) : Int) := by rw [Nat.shiftLeft_eq, int_pow]; norm_cast
    have l1 : b <<< (n - T).toNat < 9223372036854775808 := by
      rw [Nat.shiftLeft_eq]
      have : 2 ^ (n - T).toNat ≤ 2 ^ 31 := Nat.pow_le_pow_right (by decide) (by omega)
      have h2 : b * 2 ^ (n - T).toNat ≤ 4294967295 * 2 ^ 31 := Nat.mul_le_mul (by omega) this
      omega
    obtain ⟨c1, hc1⟩ : ∃ c1, c1 = b <<< (n - T).toNat := ⟨_, rfl⟩
    rw [← hc1] at hu e1 l1
    have e2 := bits_and_i64 c1 4294967295 l1 (by decide)
    rw [show ((4294967295 : Nat) : Int) = 4294967295 from rfl] at e2
    have l2 : c1 &&& 4294967295 < 9223372036854775808 := Nat.lt_of_lt_of_le (Nat.and_lt_two_pow (n := 32) _ (by decide)) (by decide)
    obtain ⟨c2, hc2⟩ : ∃ c2, c2 = c1 &&& 4294967295 := ⟨_, rfl⟩
    rw [← hc2] at hu e2 l2
    have e3 := bits_or_i64 1 c2 (by decide) l2
    rw [show ((1 : Nat) : Int) = 1 from rfl, ← hu] at e3
    obtain ⟨c3, hc3⟩ : ∃ c3, c3 = winUp T b n := ⟨_, rfl⟩
    rw [← hc3] at e3 ⊢
    have e0 : IntKind.i64.wrap ((b : Int) * 2 ^ (n - T).toNat) = (c1 : Int) := by rw [e1]; exact IntWalk.i64_in _ (by omega)
    have h33 : 0 ≤ n - T := by omega
    clear hu hc1 hc2 hc3 hw ht
    go_enter Tryd.func22, Tryd.ntmps22
    go_wp2_with fail
    refine (CK.out _).mono ?_
    rintro e w1 ⟨rfl, hb1⟩
    have hB1 : Below w.heap.size w w1 := by
      refine Below.trans ?_ (Below.mono hb1 ?_)
      · go_grown
      · first | omega | (simp; done) | (simp; omega)
    have o1_b : ObjAt w1 (w.heap.size) 49 [.int .i64 T, .int .i64 (b : Int)] := ObjAt.below (ObjAt.alloc (objNew (by simp)) _) hb1
    have o1_res : ObjAt w1 (w.heap.size + 1) 49 [.int .i64 0, .int .i64 0] := ObjAt.below (objNew (by simp)) hb1
    have q1_b_0 := o1_b.cell (i := 0) rfl
    have f1_b_0 := o1_b.free 0
    have q1_b_1 := o1_b.cell (i := 1) rfl
    have f1_b_1 := o1_b.free 1
    have l1_b := o1_b.lt
    have H1_b := hide o1_b
    clear o1_b
    have q1_res_0 := o1_res.cell (i := 0) rfl
    have f1_res_0 := o1_res.free 0
    have q1_res_1 := o1_res.cell (i := 1) rfl
    have f1_res_1 := o1_res.free 1
    have l1_res := o1_res.lt
    have H1_res := hide o1_res
    clear o1_res
    have hy1 : w.heap.size ≤ w1.heap.size := hB1.size
    clear hb1
    go_wp2_with fail
    refine (TM.out _).mono ?_
    rintro e w502 ⟨rfl, rfl⟩
    go_wp2
    exact bodyPost_ret (v := .tuple #[.agg #[.int .i64 n, .int .i64 (c3 : Int)], .nilIface]) (by simp [results, Tryd.results22, go_sem, *]) rfl ⟨rfl, by go_grown⟩
  · rw [show winUp T b n = 1 by unfold winUp; rw [if_neg h32]]
    have h33 : 32 ≤ n - T := by omega
    clear hw ht h32
    go_enter Tryd.func22, Tryd.ntmps22
    go_wp2_with fail
    refine (CK.out _).mono ?_
    rintro e w1 ⟨rfl, hb1⟩
    have hB1 : Below w.heap.size w w1 := by
      refine Below.trans ?_ (Below.mono hb1 ?_)
      · go_grown
      · first | omega | (simp; done) | (simp; omega)
    have o1_b : ObjAt w1 (w.heap.size) 49 [.int .i64 T, .int .i64 (b : Int)] := ObjAt.below (ObjAt.alloc (objNew (by simp)) _) hb1
    have o1_res : ObjAt w1 (w.heap.size + 1) 49 [.int .i64 0, .int .i64 0] := ObjAt.below (objNew (by simp)) hb1
    have q1_b_0 := o1_b.cell (i := 0) rfl
    have f1_b_0 := o1_b.free 0
    have q1_b_1 := o1_b.cell (i := 1) rfl
    have f1_b_1 := o1_b.free 1
    have l1_b := o1_b.lt
    have H1_b := hide o1_b
    clear o1_b
    have q1_res_0 := o1_res.cell (i := 0) rfl
    have f1_res_0 := o1_res.free 0
    have q1_res_1 := o1_res.cell (i := 1) rfl
    have f1_res_1 := o1_res.free 1
    have l1_res := o1_res.lt
    have H1_res := hide o1_res
    clear o1_res
    have hy1 : w.heap.size ≤ w1.heap.size := hB1.size
    clear hb1
    go_wp2_with fail
    refine (TM.out _).mono ?_
    rintro e w502 ⟨rfl, rfl⟩
    go_wp2
    exact bodyPost_ret (v := .tuple #[.agg #[.int .i64 n, .int .i64 1], .nilIface]) (by simp [results, Tryd.results22, go_sem, *]) rfl ⟨rfl, by go_grown⟩
set_option maxHeartbeats 2000000 in
theorem windowTake_back {T n : Int} {b : Nat} (hw : winE T b = 0) (ht : tmB n = true) (hle : n ≤ T) (h32 : T - n < 32) (hb : (b : Int) / 2 ^ (T - n).toNat % 2 ≠ 1) (w : World) :
    Calls Tryd.prog 22 #[.agg #[.int .i64 T, .int .i64 (b : Int)], .int .i64 n] w fun e w' => e = .returned (.tuple #[.agg #[.int .i64 T, .int .i64 ((b ||| (1 <<< (T - n).toNat) : Nat) : Int)], .nilIface]) ∧ Below w.heap.size w w' := by
  have CK : Hid (∀ W, Calls Tryd.prog 26 #[.agg #[.int .i64 T, .int .i64 (b : Int)]] W fun e w' => e = .returned .nilIface ∧ Below W.heap.size W w') := hide (fun W => windowCheck (c := 0) hw W)
  obtain ⟨k1, k2, k3, k4, _, _⟩ := winE_ok hw
  have TM := hide (fun W => tokenTime_eq ht W)
  obtain ⟨n0, n1⟩ := tmB_true.1 ht
  have hd0 : 0 ≤ (b : Int) / 2 ^ (T - n).toNat := Int.ediv_nonneg k3 (Int.le_of_lt (Int.pow_pos (by decide)))
  have hd1 : (b : Int) / 2 ^ (T - n).toNat ≤ b := Int.ediv_le_self _ k3
  obtain ⟨d, hd⟩ : ∃ d, (b : Int) / 2 ^ (T - n).toNat = d := ⟨_, rfl⟩
  rw [hd] at hb hd0 hd1
  have hx := and_one_i64 d hd0 (by omega)
  rw [show d % 2 = 0 by omega] at hx
  have l3 : 1 <<< (T - n).toNat < 9223372036854775808 := by
    rw [Nat.one_shiftLeft]
    have : 2 ^ (T - n).toNat ≤ 2 ^ 31 := Nat.pow_le_pow_right (by decide) (by omega)
    omega
  have e3 : (2 : Int) ^ (T - n).toNat = ((1 <<< (T - n).toNat : Nat) : Int) := by rw [Nat.one_shiftLeft, int_pow]
  have e4 := bits_or_i64 b (1 <<< (T - n).toNat) (by omega) l3
  obtain ⟨d4, hd4⟩ : ∃ d4, d4 = b ||| (1 <<< (T - n).toNat) := ⟨_, rfl⟩
  obtain ⟨d3, hd3⟩ : ∃ d3, d3 = 1 <<< (T - n).toNat := ⟨_, rfl⟩
  rw [← hd4] at e4 ⊢
  rw [← hd3] at e3 e4 l3
  have e5 : IntKind.i64.wrap ((2 : Int) ^ (T - n).toNat) = (d3 : Int) := by rw [e3]; exact IntWalk.i64_in _ (by omega)
  have e6 : IntKind.i64.wrap (1 * (2 : Int) ^ (T - n).toNat) = (d3 : Int) := by rw [Int.one_mul]; exact e5
  have h33 : 0 ≤ T - n := by omega
  clear hd4 hd3 hw ht hb
  obtain ⟨B, hB⟩ : ∃ B : Int, B = (b : Int) := ⟨_, rfl⟩
  rw [← hB] at CK k3 k4 hd e4 hd1
  rw [e3] at hd
  rw [← hB]
  clear hB
  go_enter Tryd.func22, Tryd.ntmps22
  go_wp2_with fail
  refine (CK.out _).mono ?_
  rintro e w1 ⟨rfl, hb1⟩
  have hB1 : Below w.heap.size w w1 := by
    refine Below.trans ?_ (Below.mono hb1 ?_)
    · go_grown
    · first | omega | (simp; done) | (simp; omega)
  have o1_b : ObjAt w1 (w.heap.size) 49 [.int .i64 T, .int .i64 B] := ObjAt.below (ObjAt.alloc (objNew (by simp)) _) hb1
  have o1_res : ObjAt w1 (w.heap.size + 1) 49 [.int .i64 0, .int .i64 0] := ObjAt.below (objNew (by simp)) hb1
  have q1_b_0 := o1_b.cell (i := 0) rfl
  have f1_b_0 := o1_b.free 0
  have q1_b_1 := o1_b.cell (i := 1) rfl
  have f1_b_1 := o1_b.free 1
  have l1_b := o1_b.lt
  have H1_b := hide o1_b
  clear o1_b
  have q1_res_0 := o1_res.cell (i := 0) rfl
  have f1_res_0 := o1_res.free 0
  have q1_res_1 := o1_res.cell (i := 1) rfl
  have f1_res_1 := o1_res.free 1
  have l1_res := o1_res.lt
  have H1_res := hide o1_res
  clear o1_res
  have hy1 : w.heap.size ≤ w1.heap.size := hB1.size
  clear hb1
  go_wp2_with fail
  refine (TM.out _).mono ?_
  rintro e w502 ⟨rfl, rfl⟩
  go_wp2_with fail
  go_region
  all_goals go_wp2
  all_goals exact bodyPost_ret (v := .tuple #[.agg #[.int .i64 T, .int .i64 (d4 : Int)], .nilIface]) (by simp [results, Tryd.results22, go_sem, *]) rfl ⟨rfl, by go_grown⟩
end Go.Proofs.YtgmljcpeklpniaaDoor
