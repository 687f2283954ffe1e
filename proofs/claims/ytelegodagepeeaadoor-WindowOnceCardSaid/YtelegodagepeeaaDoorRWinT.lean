/- foldref1: Take (of a window) by contract. -/
import Derived.Test.YtelegodagepeeaaDoorRWindow
import Derived.Test.YtelegodagepeeaaDoorWindowT
namespace Go.Proofs.YtelegodagepeeaaDoor
open Go.RowKit

theorem sumBits_congr {f g : Nat → Bool} {n : Nat} (h : ∀ j, j < n → f j = g j) : sumBits f n = sumBits g n := by
  induction n with
  | zero => rfl
  | succ n ih => simp only [sumBits]; rw [ih (fun j hj => h j (by omega)), h n (by omega)]
/-- the bits of a window behind a number -/
def rtF (T : Int) (b : Nat) (n top : Int) (k : Nat) : Bool := cameB T b (top - k) || (top - k == n)
theorem rt_up {T n : Int} {b : Nat} (hb : b < 4294967296) (h : T < n) (_h0 : T = -1 → b = 0) (_hT : -1 ≤ T) (hs : T < 31 → (b : Int) / 2 ^ (T + 1).toNat = 0) : sumBits (rtF T b n n) 32 = winUp T b n := by
  have hz : ∀ i : Nat, T < i → i < 32 → b.testBit i = false := by
    intro i h1 h2
    have h3 := hs (by omega)
    rw [int_shr] at h3
    exact (bits_none b (T + 1).toNat hb).1 (by omega) i (by omega) h2
  unfold winUp
  by_cases h32 : n - T < 32
  · rw [if_pos h32, ← win_up]
    apply sumBits_congr
    intro j hj
    unfold rtF cameB
    have e1 : (n - (j : Int) == n) = (j == 0) := by rw [Bool.eq_iff_iff]; simp only [beq_iff_eq]; omega
    rw [e1]
    congr 1
    by_cases h1 : (n - T).toNat ≤ j
    · rw [decide_eq_true (show n - (j : Int) ≤ T ∧ T - 31 ≤ n - (j : Int) by omega), decide_eq_true h1]
      rw [show (T - (n - (j : Int))).toNat = j - (n - T).toNat by omega]
    · rw [decide_eq_false (by omega), decide_eq_false h1, Bool.false_and, Bool.false_and]
  · rw [if_neg h32, ← win_far]
    apply sumBits_congr
    intro j hj
    unfold rtF cameB
    have e1 : (n - (j : Int) == n) = (j == 0) := by rw [Bool.eq_iff_iff]; simp only [beq_iff_eq]; omega
    rw [e1, decide_eq_false (by omega), Bool.false_and, Bool.false_or]
theorem rt_back {T n : Int} {b : Nat} (hb : b < 4294967296) (h : n ≤ T) (h32 : T - n < 32) : sumBits (rtF T b n T) 32 = b ||| (1 <<< (T - n).toNat) := by
  rw [← win_back b (T - n).toNat (by omega) (by omega)]
  apply sumBits_congr
  intro j hj
  unfold rtF cameB
  have e1 : (T - (j : Int) == n) = (j == (T - n).toNat) := by rw [Bool.eq_iff_iff]; simp only [beq_iff_eq]; omega
  rw [e1, decide_eq_true (show T - (j : Int) ≤ T ∧ T - 31 ≤ T - (j : Int) by omega), Bool.true_and]
  rw [show (T - (T - (j : Int))).toNat = j by omega]
theorem winB_lt {T B : Int} (h : winE T B = 0) : ∃ b : Nat, B = b ∧ b < 4294967296 := ⟨B.toNat, by have := winE_ok h; omega, by have := winE_ok h; omega⟩

set_option maxHeartbeats 4000000 in
theorem rWTake_ok {T n top : Int} {b : Nat} (hw : winE T b = 0) (ht : tmB n = true) (h32 : T - 32 < n) (hcm : cameB T b n = false) (htop : top = if T < n then n else T) (w : World) :
    Calls Tryd.prog 18 #[.agg #[.int .i64 T, .int .i64 (b : Int)], .int .i64 n] w fun e w' => e = .returned (.tuple #[.agg #[.int .i64 top, .int .i64 ((sumBits (rtF T b n top) 32 : Nat) : Int)], .int .i64 0]) ∧ Below w.heap.size w w' := by
  obtain ⟨k1, k2, k3, k4, _, _⟩ := winE_ok hw
  obtain ⟨n0, n1⟩ := tmB_true.1 ht
  have hb : b < 4294967296 := by omega
  have TM := hide (fun W => rTime_eq ht W)
  have CM := hide (fun W => rCame k1 k2 hb (by omega) (by omega) hcm W)
  have hr1 : -1 ≤ top ∧ top ≤ 100000 := by rw [htop]; split <;> omega
  have CK := hide (fun (k : Nat) (hk : k < 32) (v : Bool) (hv : cameB T b (top - k) = v) W => rCame (T := T) (n := top - k) (b := b) k1 k2 hb (by omega) (by omega) hv W)
  clear hw ht hcm
  go_enter Tryd.func18, Tryd.ntmps18
  go_wp2_with fail
  refine (TM.out _).mono ?_
  rintro e w9 ⟨rfl, rfl⟩
  go_wp2_with fail
  refine (CM.out _).mono ?_
  rintro e w1 ⟨rfl, hb1⟩
  have hB1 : Below w.heap.size w w1 := bel_a2 hb1
  have x1 : ObjAt w1 w.heap.size 23 [.int .i64 T, .int .i64 (b : Int)] := ObjAt.below (ObjAt.alloc (ObjAt.new _ _ _) _) hb1
  have x2 : ObjAt w1 (w.heap.size + 1) 23 [.int .i64 0, .int .i64 0] := ObjAt.below (objNew (by simp)) hb1
  have l1 := x1.lt
  have l2 := x2.lt
  have q0 := x1.cell (i := 0) rfl
  have q1 := x1.cell (i := 1) rfl
  have X1 := hide x1
  have X2 := hide x2
  clear x1 x2 hb1
  by_cases hlt : T < n
  · rw [if_pos hlt] at htop
    obtain rfl : n = top := htop.symm
    go_wp2_with fail
    go_loopw [9, 10] (fun p i wr => ∃ k x y : Nat, i = .int .i64 k ∧ k ≤ 32 ∧ p = .int .i64 y ∧ Hid (y = 2 ^ k) ∧ y ≤ 4294967296 ∧ Hid (x = sumBits (rtF T b n n) k) ∧ x < 4294967296 ∧ ObjAt wr w1.heap.size 23 [.int .i64 n, .int .i64 x] ∧ ObjAt wr w.heap.size 23 [.int .i64 T, .int .i64 (b : Int)] ∧ ObjAt wr (w.heap.size + 1) 23 [.int .i64 0, .int .i64 0] ∧ Below w.heap.size w wr) (fun _ i _ => 32 - (intOf i).toNat)
    case atStart => exact ⟨0, 0, 1, rfl, by omega, rfl, hide rfl, by omega, hide rfl, by omega, ObjAt.new _ _ _, ObjAt.alloc X1.out _, ObjAt.alloc X2.out _, hB1.alloc hB1.size _⟩
    case round =>
      obtain ⟨k, x, y, rfl, hk, rfl, hy, hyl, hx, hxl, o1, o2, o3, hb⟩ := hrel
      have p0 := o1.cell (i := 0) rfl
      have p1 := o1.cell (i := 1) rfl
      have q0 := o2.cell (i := 0) rfl
      have q1 := o2.cell (i := 1) rfl
      have O1 := hide o1
      have O2 := hide o2
      have O3 := hide o3
      clear X1 X2
      by_cases hlt : k < 32
      · obtain ⟨v, hv⟩ : ∃ v, cameB T b (n - k) = v := ⟨_, rfl⟩
        have C := hide (CK.out k hlt v hv)
        have hy2 : 2 * y ≤ 4294967296 := by
          have : 2 ^ (k + 1) ≤ 2 ^ 32 := Nat.pow_le_pow_right (by decide) (by omega)
          rw [hy.out]; rw [Nat.pow_succ] at this; omega
        have hx2 : x + y < 4294967296 := by
          have h1 := sumBits_lt (rtF T b n n) k
          rw [← hx.out, ← hy.out] at h1
          omega
        have hs := hide (show sumBits (rtF T b n n) (k + 1) = x + if (v || (n - (k : Int) == n)) then y else 0 by rw [hx.out, hy.out, ← hv]; rfl)
        have hyy := hide (show 2 * y = 2 ^ (k + 1) by rw [hy.out, Nat.pow_succ]; omega)
        clear hv hx hy
        go_wp2_with fail
        refine (C.out _).mono ?_
        rintro e w5 ⟨rfl, hb5⟩
        have o1 := ObjAt.below O1.out hb5
        have p0 := o1.cell (i := 0) rfl
        have p1 := o1.cell (i := 1) rfl
        have g1 := o1.free 1
        have OO1 := hide o1
        have OO2 := hide (ObjAt.below O2.out hb5)
        have OO3 := hide (ObjAt.below O3.out hb5)
        have HB5 := hide (Below.trans hb (hb5.mono hb.size))
        clear o1 o2 o3 hb5 hb O1 O2 O3 q0 q1
        cases v
        · cases he : (n - (k : Int) == n)
          · rw [he] at hs
            have He : Hid (sumBits (rtF T b n n) (k + 1) = x) := hide (by rw [hs.out]; simp)
            clear hs
            go_wp2
            go_roundw
            case rel => exact ⟨k + 1, x, 2 * y, by go_num, by omega, by go_num, hyy, by omega, hide He.out.symm, by omega, OO1.out, OO2.out, OO3.out, HB5.out⟩
            case measure => simp [intOf]; omega
          · rw [he] at hs
            have He : Hid (sumBits (rtF T b n n) (k + 1) = x + y) := hide (by rw [hs.out]; simp)
            clear hs
            go_wp2
            go_roundw
            case rel => exact ⟨k + 1, x + y, 2 * y, by go_num, by omega, by go_num, hyy, by omega, hide He.out.symm, by omega, ObjAt.set OO1.out 1 _, ObjAt.setOther OO2.out (by simp; omega) _, ObjAt.setOther OO3.out (by simp; omega) _, HB5.out.setCell (by simp; omega) _⟩
            case measure => simp [intOf]; omega
        · have He : Hid (sumBits (rtF T b n n) (k + 1) = x + y) := hide (by rw [hs.out]; simp)
          clear hs
          go_wp2
          go_roundw
          case rel => exact ⟨k + 1, x + y, 2 * y, by go_num, by omega, by go_num, hyy, by omega, hide He.out.symm, by omega, ObjAt.set OO1.out 1 _, ObjAt.setOther OO2.out (by simp; omega) _, ObjAt.setOther OO3.out (by simp; omega) _, HB5.out.setCell (by simp; omega) _⟩
          case measure => simp [intOf]; omega
      · obtain rfl : k = 32 := by omega
        have r0 := o3.cell (i := 0) rfl
        have r1 := o3.cell (i := 1) rfl
        have s0 := o3.free 0
        have s1 := o3.free 1
        clear o1 o2 o3
        go_wp2
        exact bodyPost_ret (v := .tuple #[.agg #[.int .i64 n, .int .i64 (x : Int)], .int .i64 0]) (by simp [results, Tryd.results18, go_sem, *]) rfl ⟨by rw [hx.out], Below.set2 hb (by omega)⟩
  · rw [if_neg hlt] at htop
    obtain rfl : T = top := htop.symm
    have hge : n ≤ T := by omega
    go_wp2_with fail
    go_loopw [9, 10] (fun p i wr => ∃ k x y : Nat, i = .int .i64 k ∧ k ≤ 32 ∧ p = .int .i64 y ∧ Hid (y = 2 ^ k) ∧ y ≤ 4294967296 ∧ Hid (x = sumBits (rtF T b n T) k) ∧ x < 4294967296 ∧ ObjAt wr w1.heap.size 23 [.int .i64 T, .int .i64 x] ∧ ObjAt wr w.heap.size 23 [.int .i64 T, .int .i64 (b : Int)] ∧ ObjAt wr (w.heap.size + 1) 23 [.int .i64 0, .int .i64 0] ∧ Below w.heap.size w wr) (fun _ i _ => 32 - (intOf i).toNat)
    case atStart => exact ⟨0, 0, 1, rfl, by omega, rfl, hide rfl, by omega, hide rfl, by omega, ObjAt.new _ _ _, ObjAt.alloc X1.out _, ObjAt.alloc X2.out _, hB1.alloc hB1.size _⟩
    case round =>
      obtain ⟨k, x, y, rfl, hk, rfl, hy, hyl, hx, hxl, o1, o2, o3, hb⟩ := hrel
      have p0 := o1.cell (i := 0) rfl
      have p1 := o1.cell (i := 1) rfl
      have q0 := o2.cell (i := 0) rfl
      have q1 := o2.cell (i := 1) rfl
      have O1 := hide o1
      have O2 := hide o2
      have O3 := hide o3
      clear X1 X2
      by_cases hlt : k < 32
      · obtain ⟨v, hv⟩ : ∃ v, cameB T b (T - k) = v := ⟨_, rfl⟩
        have C := hide (CK.out k hlt v hv)
        have hy2 : 2 * y ≤ 4294967296 := by
          have : 2 ^ (k + 1) ≤ 2 ^ 32 := Nat.pow_le_pow_right (by decide) (by omega)
          rw [hy.out]; rw [Nat.pow_succ] at this; omega
        have hx2 : x + y < 4294967296 := by
          have h1 := sumBits_lt (rtF T b n T) k
          rw [← hx.out, ← hy.out] at h1
          omega
        have hs := hide (show sumBits (rtF T b n T) (k + 1) = x + if (v || (T - (k : Int) == n)) then y else 0 by rw [hx.out, hy.out, ← hv]; rfl)
        have hyy := hide (show 2 * y = 2 ^ (k + 1) by rw [hy.out, Nat.pow_succ]; omega)
        clear hv hx hy
        go_wp2_with fail
        refine (C.out _).mono ?_
        rintro e w5 ⟨rfl, hb5⟩
        have o1 := ObjAt.below O1.out hb5
        have p0 := o1.cell (i := 0) rfl
        have p1 := o1.cell (i := 1) rfl
        have g1 := o1.free 1
        have OO1 := hide o1
        have OO2 := hide (ObjAt.below O2.out hb5)
        have OO3 := hide (ObjAt.below O3.out hb5)
        have HB5 := hide (Below.trans hb (hb5.mono hb.size))
        clear o1 o2 o3 hb5 hb O1 O2 O3 q0 q1
        cases v
        · cases he : (T - (k : Int) == n)
          · rw [he] at hs
            have He : Hid (sumBits (rtF T b n T) (k + 1) = x) := hide (by rw [hs.out]; simp)
            clear hs
            go_wp2
            go_roundw
            case rel => exact ⟨k + 1, x, 2 * y, by go_num, by omega, by go_num, hyy, by omega, hide He.out.symm, by omega, OO1.out, OO2.out, OO3.out, HB5.out⟩
            case measure => simp [intOf]; omega
          · rw [he] at hs
            have He : Hid (sumBits (rtF T b n T) (k + 1) = x + y) := hide (by rw [hs.out]; simp)
            clear hs
            go_wp2
            go_roundw
            case rel => exact ⟨k + 1, x + y, 2 * y, by go_num, by omega, by go_num, hyy, by omega, hide He.out.symm, by omega, ObjAt.set OO1.out 1 _, ObjAt.setOther OO2.out (by simp; omega) _, ObjAt.setOther OO3.out (by simp; omega) _, HB5.out.setCell (by simp; omega) _⟩
            case measure => simp [intOf]; omega
        · have He : Hid (sumBits (rtF T b n T) (k + 1) = x + y) := hide (by rw [hs.out]; simp)
          clear hs
          go_wp2
          go_roundw
          case rel => exact ⟨k + 1, x + y, 2 * y, by go_num, by omega, by go_num, hyy, by omega, hide He.out.symm, by omega, ObjAt.set OO1.out 1 _, ObjAt.setOther OO2.out (by simp; omega) _, ObjAt.setOther OO3.out (by simp; omega) _, HB5.out.setCell (by simp; omega) _⟩
          case measure => simp [intOf]; omega
      · obtain rfl : k = 32 := by omega
        have r0 := o3.cell (i := 0) rfl
        have r1 := o3.cell (i := 1) rfl
        have s0 := o3.free 0
        have s1 := o3.free 1
        clear o1 o2 o3
        go_wp2
        exact bodyPost_ret (v := .tuple #[.agg #[.int .i64 T, .int .i64 (x : Int)], .int .i64 0]) (by simp [results, Tryd.results18, go_sem, *]) rfl ⟨by rw [hx.out], Below.set2 hb (by omega)⟩
end Go.Proofs.YtelegodagepeeaaDoor
