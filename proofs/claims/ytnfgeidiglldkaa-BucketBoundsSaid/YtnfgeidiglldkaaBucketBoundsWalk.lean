/- The walk of BucketBounds. -/
import Derived.Test.YtnfgeidiglldkaaBucketT
import Derived.Test.YtnfgeidiglldkaaOpen
import Derived.Deep.RegionHeld3
import Derived.Test.YtnfgeidiglldkaaObj4
namespace Go.Proofs.Ytnfgeidiglldkaa
open Go.RowKit

/-- what was taken and what is there is no more than there was and what came since -/
def bbJ (s r h0 t0 h t tk : Int) (k : Nat) : Prop := buckB s r h t = true ∧ t0 ≤ t ∧ 0 ≤ tk ∧ tk ≤ 100 * k ∧ tk + h ≤ h0 + r * (t - t0) ∧ 0 ≤ t0 ∧ 0 ≤ h0 ∧ h0 ≤ 100
theorem bbJ_take {s r h0 t0 h t tk x n : Int} {k : Nat} (hJ : bbJ s r h0 t0 h t tk k) (hx : tmB x = true) (hxt : t ≤ x) (hn : 0 ≤ n ∧ n ≤ 100) (hn2 : n ≤ buckH s r h t x) :
    bbJ s r h0 t0 (buckH s r h t x - n) x (tk + n) (k + 1) ∧ tk + n ≤ h0 + r * (x - t0) ∧ 0 ≤ r * (x - t0) ∧ r * (x - t0) ≤ 10000000 ∧ 0 ≤ buckH s r h t x - n ∧ buckH s r h t x - n ≤ s := by
  obtain ⟨j1, j2, j3, j4, j5, j6, j7, j8⟩ := hJ
  obtain ⟨z0, z1, z2⟩ := buckH_in j1 hx hxt
  obtain ⟨⟨h1, h2, h3, h4, h5, h6⟩, h7, h8⟩ := buckB_ok j1
  obtain ⟨h9, h10⟩ := tmB_true.1 hx
  have e : r * (x - t0) = r * (t - t0) + r * (x - t) := by rw [← Int.mul_add]; congr 1; omega
  obtain ⟨y1, y2⟩ := rate_le (r := r) (d := x - t0) h3 h4 (by omega) (by omega)
  refine ⟨⟨?_, by omega, by omega, by omega, by omega, j6, j7, j8⟩, by omega, y1, y2, by omega, by omega⟩
  simp only [buckB, Bool.and_eq_true, decide_eq_true_eq]
  exact ⟨by omega, hx⟩

theorem bbJ_next {s r h0 t0 h t tk : Int} {k : Nat} (hJ : bbJ s r h0 t0 h t tk k) : bbJ s r h0 t0 h t tk (k + 1) := by
  obtain ⟨j1, j2, j3, j4, j5, j6, j7, j8⟩ := hJ
  exact ⟨j1, j2, j3, by omega, j5, j6, j7, j8⟩

set_option maxRecDepth 100000 in
set_option maxHeartbeats 4000000 in
theorem walkBucketBounds1 (w : World) (s r h0 t0 : Int) (hb0 : buckB s r h0 t0 = true) (a : Option Addr) (len cap : Nat) (zs : List (List Int)) (hm : len ≤ maxLen)
    (hr : len = 0 ∨ ∃ b off, ∃ (A : Nat → Option Addr) (C : Nat → Nat), a = some ⟨b, off, none⟩ ∧ b < w.heap.size ∧ len ≤ maxLen ∧ zs.length = len ∧ (∀ i, i < len → w.cell? ⟨b, off + i, none⟩ = some (.slice (A i) (zs.getD i []).length (C i))) ∧
      ∀ i, i < len → (zs.getD i []).length ≤ C i ∧ C i ≤ maxLen ∧ IntRow w (A i) (zs.getD i []).length (zs.getD i [])) :
    Calls Try.prog 4 #[.agg #[.int .i64 s, .int .i64 r, .int .i64 h0, .int .i64 t0], .slice a len cap] w fun e w' => e = .returned (.bool true) ∧ Below w.heap.size w w' := by
  unfold maxLen at hm
  have HR := hide hr
  clear hr
  have T0 : Hid (∀ W, Calls Try.prog 10 #[.agg #[.int .i64 5, .int .i64 2, .int .i64 1, .int .i64 0], .int .i64 3, .int .i64 5] W fun e w' => e = .returned (.tuple #[.agg #[.int .i64 5, .int .i64 2, .int .i64 0, .int .i64 3], .nilIface]) ∧ Below W.heap.size W w') := by
    intro W; exact bucketTake_ok (s := 5) (r := 2) (h := 1) (t := 0) (x := 3) (n := 5) (by decide) (by decide) (by decide) (by decide) (by decide) W
  have CK := hide (fun W => bucketCheck_ok hb0 W)
  obtain ⟨⟨g1, g2, g3, g4, g5, g6⟩, g7, g8⟩ := buckB_ok hb0
  have Hb0 := hide hb0
  clear hb0
  go_enter Try.func4, Try.ntmps4
  go_wp2_with fail
  refine (T0.out _).mono ?_
  rintro e w1 ⟨rfl, hb1⟩
  have r1 : ObjAt w1 w.heap.size 31 [.int .i64 s, .int .i64 r, .int .i64 h0, .int .i64 t0] := ObjAt.below (ObjAt.new _ _ _) hb1
  have hB1 : Below w.heap.size w w1 := bel_a1 hb1
  have z1 := r1.lt
  have q0 := r1.cell (i := 0) rfl
  have q1 := r1.cell (i := 1) rfl
  have q2 := r1.cell (i := 2) rfl
  have q3 := r1.cell (i := 3) rfl
  have R1 := hide r1
  clear r1 hb1
  go_wp2_with fail
  refine (CK.out _).mono ?_
  rintro e w2 ⟨rfl, hb2⟩
  have hB2 : Below w.heap.size w w2 := hB1.trans ((bel_a1 hb2).mono hB1.size)
  have r2 := ObjAt.below (ObjAt.alloc R1.out _) hb2
  have z2 := r2.lt
  have q0 := r2.cell (i := 0) rfl
  have q1 := r2.cell (i := 1) rfl
  have q2 := r2.cell (i := 2) rfl
  have q3 := r2.cell (i := 3) rfl
  have R2 := hide r2
  clear r2 hb2 R1
  go_wp2_with fail
  have hsz : w.heap.size < w2.heap.size := z2
  have hF : ObjAt (w2.alloc (.cells #[.int .i64 s, .int .i64 r, .int .i64 h0, .int .i64 t0] 31)) w2.heap.size 31 [.int .i64 s, .int .i64 r, .int .i64 h0, .int .i64 t0] := ObjAt.new _ _ _
  go_loopw [8, 9] (fun tks i wr => ∃ (k : Nat) (h t tk : Int), tks = .int .i64 tk ∧ i = .int .i64 k ∧ k ≤ len ∧ k ≤ 60 ∧ bbJ s r h0 t0 h t tk k ∧ ObjAt wr w.heap.size 31 [.int .i64 s, .int .i64 r, .int .i64 h, .int .i64 t] ∧ ObjAt wr w2.heap.size 31 [.int .i64 s, .int .i64 r, .int .i64 h0, .int .i64 t0] ∧ Below w.heap.size w wr) (fun _ i _ => 60 - (intOf i).toNat)
  case atStart => exact ⟨0, h0, t0, 0, rfl, rfl, by omega, by omega, ⟨Hb0.out, by omega, by omega, by omega, by rw [Int.sub_self, Int.mul_zero]; omega, by omega, by omega, by omega⟩, ObjAt.alloc R2.out _, hF, hB2.alloc hB2.size _⟩
  case round =>
    obtain ⟨k, h, t, tk, rfl, rfl, hk, hk2, hJ, ho1, ho2, hb⟩ := hrel
    have HJ := hide hJ
    obtain ⟨j1, j2, j3, j4, j5, j6, j7, j8⟩ := hJ
    clear j5
    have Ho1 := hide ho1
    have Ho2 := hide ho2
    clear ho1 ho2 q0 q1 q2 q3 hF R2
    by_cases h1 : k < len
    · by_cases h2 : k < 60
      · obtain ⟨b, off, AA, CC, ha, hlt, hcl, hCk, hCk2, hrow⟩ : ∃ b off, ∃ (AA : Option Addr) (CC : Nat), a = some ⟨b, off, none⟩ ∧ b < w.heap.size ∧ w.cell? ⟨b, off + k, none⟩ = some (.slice AA (zs.getD k []).length CC) ∧ (zs.getD k []).length ≤ CC ∧ CC ≤ maxLen ∧ IntRow w AA (zs.getD k []).length (zs.getD k []) := by
          rcases HR.out with h | ⟨b, off, A, C, h3, h4, h5, h6, h7, h8⟩
          · omega
          · exact ⟨b, off, A k, C k, h3, h4, h7 k h1, (h8 k h1).1, (h8 k h1).2.1, (h8 k h1).2.2⟩
        subst ha
        obtain ⟨zk, hzk⟩ : ∃ zk, zk = zs.getD k [] := ⟨_, rfl⟩
        rw [← hzk] at hcl hCk hrow
        clear hzk
        have hcellr := (hb.cell (p := ⟨b, off + k, none⟩) hlt).trans hcl
        unfold maxLen at hCk2
        have hlz : zk.length ≤ CC := hCk
        by_cases hl2 : zk.length = 2
        · obtain ⟨b2, off2, rfl, hlt2, cp, cq⟩ : ∃ b2 off2, AA = some ⟨b2, off2, none⟩ ∧ b2 < w.heap.size ∧ w.cell? ⟨b2, off2 + 0, none⟩ = some (.int .i64 (zk.getD 0 0)) ∧ w.cell? ⟨b2, off2 + 1, none⟩ = some (.int .i64 (zk.getD 1 0)) := by
            rcases hrow.split with h | ⟨b2, off2, h3, h4, _, _, h5⟩
            · omega
            · exact ⟨b2, off2, h3, h4, h5 0 (by omega), h5 1 (by omega)⟩
          obtain ⟨x, hx⟩ : ∃ x, x = zk.getD 0 0 := ⟨_, rfl⟩
          obtain ⟨n, hn⟩ : ∃ n, n = zk.getD 1 0 := ⟨_, rfl⟩
          rw [← hx, Nat.add_zero] at cp
          rw [← hn] at cq
          rw [hl2] at hcellr
          clear hx hn hrow hl2 hCk hlz
          have cpr := (hb.cell (p := ⟨b2, off2, none⟩) hlt2).trans cp
          have cqr := (hb.cell (p := ⟨b2, off2 + 1, none⟩) hlt2).trans cq
          have q0 := Ho1.out.cell (i := 0) rfl
          have q1 := Ho1.out.cell (i := 1) rfl
          have q2 := Ho1.out.cell (i := 2) rfl
          have q3 := Ho1.out.cell (i := 3) rfl
          have Cp := hide cp
          have Cq := hide cq
          have Hcl := hide hcl
          clear cp cq hcl
          rcases buckTE_cases s r h t x n with ⟨_, e1, e2, e3, e4, e5⟩ | hbad
          · have TK := hide (fun W => bucketTake_ok e1 e2 e3 e4 e5 W)
            obtain ⟨hJ2, f1, f2, f3, f4, f5⟩ := bbJ_take HJ.out e2 e3 e4 e5
            have CK2 := hide (fun W => bucketCheck_ok hJ2.1 W)
            obtain ⟨hh, hhh⟩ : ∃ hh, hh = buckH s r h t x - n := ⟨_, rfl⟩
            rw [← hhh] at TK CK2 f4 f5 hJ2
            have HJ2 := hide hJ2
            obtain ⟨e6, e7⟩ := tmB_true.1 e2
            clear hhh hJ2 e1 e2 e5
            go_wp2_with fail
            have y1 : w.heap.size < wr.heap.size := Ho1.out.lt
            have y2 : b < wr.heap.size := by omega
            have y3 : b2 < wr.heap.size := by omega
            have HS : Hid (∀ w' : World, Below wr.heap.size wr w' → w'.cell? ⟨w.heap.size, 0, none⟩ = some (.int .i64 s) ∧ w'.cell? ⟨w.heap.size, 1, none⟩ = some (.int .i64 r) ∧ w'.cell? ⟨w.heap.size, 2, none⟩ = some (.int .i64 h) ∧ w'.cell? ⟨w.heap.size, 3, none⟩ = some (.int .i64 t) ∧ w'.cell? ⟨b, off + k, none⟩ = some (.slice (some ⟨b2, off2, none⟩) 2 CC) ∧ w'.cell? ⟨b2, off2, none⟩ = some (.int .i64 x) ∧ w'.cell? ⟨b2, off2 + 1, none⟩ = some (.int .i64 n)) :=
              fun w' hB => ⟨(hB.cell (p := ⟨w.heap.size, 0, none⟩) y1).trans q0, (hB.cell (p := ⟨w.heap.size, 1, none⟩) y1).trans q1, (hB.cell (p := ⟨w.heap.size, 2, none⟩) y1).trans q2, (hB.cell (p := ⟨w.heap.size, 3, none⟩) y1).trans q3,
                (hB.cell (p := ⟨b, off + k, none⟩) y2).trans hcellr, (hB.cell (p := ⟨b2, off2, none⟩) y3).trans cpr, (hB.cell (p := ⟨b2, off2 + 1, none⟩) y3).trans cqr⟩
            have hrr := Below.refl wr.heap.size wr
            go_region_held3 (fun w' => w'.cell? ⟨w.heap.size, 0, none⟩ = some (.int .i64 s) ∧ w'.cell? ⟨w.heap.size, 1, none⟩ = some (.int .i64 r) ∧ w'.cell? ⟨w.heap.size, 2, none⟩ = some (.int .i64 h) ∧ w'.cell? ⟨w.heap.size, 3, none⟩ = some (.int .i64 t) ∧ w'.cell? ⟨b, off + k, none⟩ = some (.slice (some ⟨b2, off2, none⟩) 2 CC) ∧ w'.cell? ⟨b2, off2, none⟩ = some (.int .i64 x) ∧ w'.cell? ⟨b2, off2 + 1, none⟩ = some (.int .i64 n)) (first | exact HS.out _ (by assumption) | (refine HS.out _ ?_; go_grown) | go_keep)
              (first | (go_at_call 10; refine (TK.out _).mono ?_; rintro e5 w5 ⟨rfl, hb5⟩; have hw5 : Below wr.heap.size wr w5 := Below.trans (by go_grown) (Below.mono hb5 (by first | omega | (simp; done) | (simp; omega))); have hz5 := hw5.size; have hs5 := hb5.size; (try simp at hs5); obtain ⟨c5, d5⟩ := bcell hb5))
            · have hx5 : ObjAt (w5.alloc (.cells #[.int .i64 s, .int .i64 r, .int .i64 hh, .int .i64 x] 31)) w5.heap.size 31 [.int .i64 s, .int .i64 r, .int .i64 hh, .int .i64 x] := ObjAt.new _ _ _
              have hBx : Below wr.heap.size wr (w5.alloc (.cells #[.int .i64 s, .int .i64 r, .int .i64 hh, .int .i64 x] 31)) := hw5.alloc hz5 _
              have hgx : w.heap.size < w5.heap.size := by omega
              have p0 := hx5.cell (i := 0) rfl
              have p1 := hx5.cell (i := 1) rfl
              have p2 := hx5.cell (i := 2) rfl
              have p3 := hx5.cell (i := 3) rfl
              have Hx5 := hide hx5
              have o1 := hide (ObjAt.below Ho1.out hBx)
              have o2 := ObjAt.below Ho2.out hBx
              have u1 := o2.cell (i := 1) rfl
              have u2 := o2.cell (i := 2) rfl
              have u3 := o2.cell (i := 3) rfl
              have O2 := hide o2
              have v1 := (hBx.cell (p := ⟨b, off + k, none⟩) y2).trans hcellr
              have v2 := (hBx.cell (p := ⟨b2, off2 + 1, none⟩) y3).trans cqr
              have HB := hide (Below.trans hb (hBx.mono (Nat.le_of_lt y1)))
              clear hx5 o2 hBx hw5 hb5 c5 d5 hz5 hs5 hrr q0 q1 q2 q3 hcellr cpr cqr Ho1 Ho2
              go_wp2_with fail
              refine (CK2.out _).mono ?_
              rintro e6 w6 ⟨rfl, hb6⟩
              have hx6 := ObjAt.below Hx5.out hb6
              have p0 := hx6.cell (i := 0) rfl
              have p1 := hx6.cell (i := 1) rfl
              have p2 := hx6.cell (i := 2) rfl
              have p3 := hx6.cell (i := 3) rfl
              have o6 := ObjAt.below o1.out hb6
              have q0 := o6.cell (i := 0) rfl
              have q1 := o6.cell (i := 1) rfl
              have q2 := o6.cell (i := 2) rfl
              have q3 := o6.cell (i := 3) rfl
              have g0 := o6.free 0
              have g1 := o6.free 1
              have g2 := o6.free 2
              have g3 := o6.free 3
              have O6 := hide o6
              have O7 := hide (ObjAt.below O2.out hb6)
              have HB6 := hide (Below.trans HB.out (hb6.mono HB.out.size))
              clear hx6 o6 hb6 o1 O2 HB
              go_wp2
              go_roundw
              case rel => exact ⟨k + 1, hh, x, tk + n, by go_num, by go_num, by omega, by omega, HJ2.out, ObjAt.set4 O6.out, ObjAt.other4 O7.out (by omega), Below.set4 HB6.out (Nat.le_refl _)⟩
              case measure => simp [intOf]; omega
            · have hx5' : ObjAt w5 wr.heap.size 31 [.int .i64 0, .int .i64 0, .int .i64 0, .int .i64 0] := ObjAt.below (ObjAt.drew (ObjAt.new _ _ _)) hb5
              have hx5 := hx5'.set4 (v0 := .int .i64 s) (v1 := .int .i64 r) (v2 := .int .i64 hh) (v3 := .int .i64 x)
              have hBx := Below.set4 (v0 := .int .i64 s) (v1 := .int .i64 r) (v2 := .int .i64 hh) (v3 := .int .i64 x) hw5 (Nat.le_refl _)
              have hgx : w.heap.size < wr.heap.size := y1
              clear hx5'
              have p0 := hx5.cell (i := 0) rfl
              have p1 := hx5.cell (i := 1) rfl
              have p2 := hx5.cell (i := 2) rfl
              have p3 := hx5.cell (i := 3) rfl
              have Hx5 := hide hx5
              have o1 := hide (ObjAt.below Ho1.out hBx)
              have o2 := ObjAt.below Ho2.out hBx
              have u1 := o2.cell (i := 1) rfl
              have u2 := o2.cell (i := 2) rfl
              have u3 := o2.cell (i := 3) rfl
              have O2 := hide o2
              have v1 := (hBx.cell (p := ⟨b, off + k, none⟩) y2).trans hcellr
              have v2 := (hBx.cell (p := ⟨b2, off2 + 1, none⟩) y3).trans cqr
              have HB := hide (Below.trans hb (hBx.mono (Nat.le_of_lt y1)))
              clear hx5 o2 hBx hw5 hb5 c5 d5 hz5 hs5 hrr q0 q1 q2 q3 hcellr cpr cqr Ho1 Ho2
              go_wp2_with fail
              refine (CK2.out _).mono ?_
              rintro e6 w6 ⟨rfl, hb6⟩
              have hx6 := ObjAt.below Hx5.out hb6
              have p0 := hx6.cell (i := 0) rfl
              have p1 := hx6.cell (i := 1) rfl
              have p2 := hx6.cell (i := 2) rfl
              have p3 := hx6.cell (i := 3) rfl
              have o6 := ObjAt.below o1.out hb6
              have q0 := o6.cell (i := 0) rfl
              have q1 := o6.cell (i := 1) rfl
              have q2 := o6.cell (i := 2) rfl
              have q3 := o6.cell (i := 3) rfl
              have g0 := o6.free 0
              have g1 := o6.free 1
              have g2 := o6.free 2
              have g3 := o6.free 3
              have O6 := hide o6
              have O7 := hide (ObjAt.below O2.out hb6)
              have HB6 := hide (Below.trans HB.out (hb6.mono HB.out.size))
              clear hx6 o6 hb6 o1 O2 HB
              go_wp2
              go_roundw
              case rel => exact ⟨k + 1, hh, x, tk + n, by go_num, by go_num, by omega, by omega, HJ2.out, ObjAt.set4 O6.out, ObjAt.other4 O7.out (by omega), Below.set4 HB6.out (Nat.le_refl _)⟩
              case measure => simp [intOf]; omega
          · obtain ⟨c, hc⟩ : ∃ c, buckTE s r h t x n = c := ⟨_, rfl⟩
            rw [hc] at hbad
            have TK := hide (fun W => bucketTake_bad hc hbad W)
            have t1 : (c != 0) = true := bne_iff_ne.2 hbad
            clear hc hbad
            go_wp2_with fail
            have y1 : w.heap.size < wr.heap.size := Ho1.out.lt
            have y2 : b < wr.heap.size := by omega
            have y3 : b2 < wr.heap.size := by omega
            have HS : Hid (∀ w' : World, Below wr.heap.size wr w' → w'.cell? ⟨w.heap.size, 0, none⟩ = some (.int .i64 s) ∧ w'.cell? ⟨w.heap.size, 1, none⟩ = some (.int .i64 r) ∧ w'.cell? ⟨w.heap.size, 2, none⟩ = some (.int .i64 h) ∧ w'.cell? ⟨w.heap.size, 3, none⟩ = some (.int .i64 t) ∧ w'.cell? ⟨b, off + k, none⟩ = some (.slice (some ⟨b2, off2, none⟩) 2 CC) ∧ w'.cell? ⟨b2, off2, none⟩ = some (.int .i64 x) ∧ w'.cell? ⟨b2, off2 + 1, none⟩ = some (.int .i64 n)) :=
              fun w' hB => ⟨(hB.cell (p := ⟨w.heap.size, 0, none⟩) y1).trans q0, (hB.cell (p := ⟨w.heap.size, 1, none⟩) y1).trans q1, (hB.cell (p := ⟨w.heap.size, 2, none⟩) y1).trans q2, (hB.cell (p := ⟨w.heap.size, 3, none⟩) y1).trans q3,
                (hB.cell (p := ⟨b, off + k, none⟩) y2).trans hcellr, (hB.cell (p := ⟨b2, off2, none⟩) y3).trans cpr, (hB.cell (p := ⟨b2, off2 + 1, none⟩) y3).trans cqr⟩
            have hrr := Below.refl wr.heap.size wr
            go_region_held3 (fun w' => w'.cell? ⟨w.heap.size, 0, none⟩ = some (.int .i64 s) ∧ w'.cell? ⟨w.heap.size, 1, none⟩ = some (.int .i64 r) ∧ w'.cell? ⟨w.heap.size, 2, none⟩ = some (.int .i64 h) ∧ w'.cell? ⟨w.heap.size, 3, none⟩ = some (.int .i64 t) ∧ w'.cell? ⟨b, off + k, none⟩ = some (.slice (some ⟨b2, off2, none⟩) 2 CC) ∧ w'.cell? ⟨b2, off2, none⟩ = some (.int .i64 x) ∧ w'.cell? ⟨b2, off2 + 1, none⟩ = some (.int .i64 n)) (first | exact HS.out _ (by assumption) | (refine HS.out _ ?_; go_grown) | go_keep)
              (first | (go_at_call 10; refine (TK.out _).mono ?_; rintro e5 w5 ⟨rfl, hb5⟩; have hw5 : Below wr.heap.size wr w5 := Below.trans (by go_grown) (Below.mono hb5 (by first | omega | (simp; done) | (simp; omega))); have hz5 := hw5.size; have hs5 := hb5.size; (try simp at hs5); obtain ⟨c5, d5⟩ := bcell hb5))
            · have hBx : Below wr.heap.size wr (w5.alloc (.cells #[.int .i64 0, .int .i64 0, .int .i64 0, .int .i64 0] 31)) := hw5.alloc hz5 _
              have o1 := hide (ObjAt.below Ho1.out hBx)
              have o2 := hide (ObjAt.below Ho2.out hBx)
              have HB := hide (Below.trans hb (hBx.mono (Nat.le_of_lt y1)))
              clear hBx hw5 hb5 c5 d5 hz5 hs5 hrr q0 q1 q2 q3 hcellr cpr cqr Ho1 Ho2
              go_wp2
              go_roundw
              case rel => exact ⟨k + 1, h, t, tk, rfl, by go_num, by omega, by omega, bbJ_next HJ.out, o1.out, o2.out, HB.out⟩
              case measure => simp [intOf]; omega
            · have hBx := Below.set4 (v0 := .int .i64 0) (v1 := .int .i64 0) (v2 := .int .i64 0) (v3 := .int .i64 0) hw5 (Nat.le_refl _)
              have o1 := hide (ObjAt.below Ho1.out hBx)
              have o2 := hide (ObjAt.below Ho2.out hBx)
              have HB := hide (Below.trans hb (hBx.mono (Nat.le_of_lt y1)))
              clear hBx hw5 hb5 c5 d5 hz5 hs5 hrr q0 q1 q2 q3 hcellr cpr cqr Ho1 Ho2
              go_wp2
              go_roundw
              case rel => exact ⟨k + 1, h, t, tk, rfl, by go_num, by omega, by omega, bbJ_next HJ.out, o1.out, o2.out, HB.out⟩
              case measure => simp [intOf]; omega
        · have t2 : (((zk.length : Nat) : Int) != 2) = true := by rw [bne_iff_ne]; omega
          clear hrow hCk
          go_wp2
          go_roundw
          case rel => exact ⟨k + 1, h, t, tk, rfl, by go_num, by omega, by omega, bbJ_next HJ.out, Ho1.out, Ho2.out, hb⟩
          case measure => simp [intOf]; omega
      · go_wp2
        go_ret
        exact ⟨rfl, hb⟩
    · go_wp2
      go_ret
      exact ⟨rfl, hb⟩

set_option maxRecDepth 100000 in
set_option maxHeartbeats 1000000 in
theorem walkBucketBounds0 (w : World) (s r h0 t0 : Int) (hb0 : buckB s r h0 t0 = false) (a : Option Addr) (len cap : Nat) :
    Calls Try.prog 4 #[.agg #[.int .i64 s, .int .i64 r, .int .i64 h0, .int .i64 t0], .slice a len cap] w fun e w' => e = .returned (.bool true) ∧ Below w.heap.size w w' := by
  have T0 : Hid (∀ W, Calls Try.prog 10 #[.agg #[.int .i64 5, .int .i64 2, .int .i64 1, .int .i64 0], .int .i64 3, .int .i64 5] W fun e w' => e = .returned (.tuple #[.agg #[.int .i64 5, .int .i64 2, .int .i64 0, .int .i64 3], .nilIface]) ∧ Below W.heap.size W w') := by
    intro W; exact bucketTake_ok (s := 5) (r := 2) (h := 1) (t := 0) (x := 3) (n := 5) (by decide) (by decide) (by decide) (by decide) (by decide) W
  have CK := hide (fun W => bucketCheck_bad hb0 W)
  clear hb0
  go_enter Try.func4, Try.ntmps4
  go_wp2_with fail
  refine (T0.out _).mono ?_
  rintro e w1 ⟨rfl, hb1⟩
  have r1 : ObjAt w1 w.heap.size 31 [.int .i64 s, .int .i64 r, .int .i64 h0, .int .i64 t0] := ObjAt.below (ObjAt.new _ _ _) hb1
  have hB1 : Below w.heap.size w w1 := bel_a1 hb1
  have z1 := r1.lt
  have q0 := r1.cell (i := 0) rfl
  have q1 := r1.cell (i := 1) rfl
  have q2 := r1.cell (i := 2) rfl
  have q3 := r1.cell (i := 3) rfl
  clear r1 hb1
  go_wp2_with fail
  refine (CK.out _).mono ?_
  rintro e w2 ⟨rfl, hb2⟩
  have hB2 : Below w.heap.size w w2 := hB1.trans ((bel_a1 hb2).mono hB1.size)
  go_wp2
  go_ret
  exact ⟨rfl, hB2⟩
theorem walkBucketBounds (w : World) (s r h0 t0 : Int) (_w0 : (Lit.int .i64 s).wf = true) (_w1 : (Lit.int .i64 r).wf = true) (_w2 : (Lit.int .i64 h0).wf = true) (_w3 : (Lit.int .i64 t0).wf = true) (a : Option Addr) (len cap : Nat) (zs : List (List Int)) (_hl : len ≤ cap) (_hc : cap ≤ maxLen) (hr : MatRow w a len zs) :
    Calls Try.prog 4 #[.agg #[.int .i64 s, .int .i64 r, .int .i64 h0, .int .i64 t0], .slice a len cap] w fun e w' => e = .returned (.bool true) ∧ Below w.heap.size w w' := by
  cases hb : buckB s r h0 t0
  · exact walkBucketBounds0 w s r h0 t0 hb a len cap
  · exact walkBucketBounds1 w s r h0 t0 hb a len cap zs hr.2.1 hr.split
end Go.Proofs.Ytnfgeidiglldkaa
