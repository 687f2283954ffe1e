/- The walk of WindowOnce. -/
import Derived.Test.YtelegodagepeeaaDoorWinOnceP
import Derived.Test.YtelegodagepeeaaDoorErr
import Derived.Test.YtelegodagepeeaaDoorObj4
import Derived.Test.YtelegodagepeeaaDoorOwn
import Derived.Deep.RegionHeld3
import Derived.Deep.QuietTactic
import Derived.BigQuiet
namespace Go.Proofs.YtelegodagepeeaaDoor
open Go.RowKit

theorem wo_app {w : World} {base : Nat} {e : TypeId} {v : Value} {ts : List Int} {n : Int} (h : w.ownsRow base e 1 v (ts.length + 1) (ts.map (Value.int .i64) ++ [.int .i64 n])) : w.ownsRow base e 1 v (ts ++ [n]).length ((ts ++ [n]).map (Value.int .i64)) := by
  simpa using h
theorem any_snoc (ts : List Int) (j : Nat) (hj : j < ts.length) (n : Int) : ((ts.take (j + 1)).any (· == n)) = ((ts.take j).any (· == n) || (ts.getD j 0 == n)) := by
  rw [take_snoc_getD ts j hj, List.any_append]; simp
set_option maxRecDepth 100000 in
set_option maxHeartbeats 8000000 in
theorem walkWindowOnce (w : World) (a : Option Addr) (len cap : Nat) (zs : List Int) (_hl : len ≤ cap) (_hc : cap ≤ maxLen) (hr : IntRow w a len zs) (hE : ErrT w) :
    Calls Tryd.prog 4 #[.slice a len cap] w fun e w' => e = .returned (.bool true) ∧ Below w.heap.size w w' := by
  unfold maxLen at _hc
  have NW := hide (fun W => windowNew W)
  have T5 : Hid (∀ W, Calls Tryd.prog 19 #[.agg #[.int .i64 (-1), .int .i64 0], .int .i64 5] W fun e w' => e = .returned (.tuple #[.agg #[.int .i64 5, .int .i64 1], .nilIface]) ∧ Below W.heap.size W w') := by
    intro W
    have g := windowTake_up (T := -1) (b := 0) (n := 5) (by decide) (by decide) (by decide) W
    rw [show winUp (-1) 0 5 = 1 by decide] at g
    exact g
  have T6 : Hid (∀ W, Calls Tryd.prog 19 #[.agg #[.int .i64 5, .int .i64 1], .int .i64 5] W fun e w' => e = .returned (.tuple #[.agg #[.int .i64 0, .int .i64 0], .iface 94 (.int .i64 7)]) ∧ Below W.heap.size W w') := hide (windowTake_bad (c := 7) (by decide) (by decide))
  have T7 : Hid (∀ W, Calls Tryd.prog 19 #[.agg #[.int .i64 5, .int .i64 1], .int .i64 3] W fun e w' => e = .returned (.tuple #[.agg #[.int .i64 5, .int .i64 5], .nilIface]) ∧ Below W.heap.size W w') := by
    intro W
    have g := windowTake_back (T := 5) (b := 1) (n := 3) (by decide) (by decide) (by decide) (by decide) (by decide) W
    rw [show (1 ||| (1 <<< ((5 : Int) - 3).toNat) : Nat) = 5 by decide] at g
    exact g
  have HR := hide hr
  clear hr
  obtain ⟨i0, hi0, hz0, hz1, hz2⟩ := info_parts Tryd.infoInt
  have Hi0 := hide hi0
  have Hz0 := hide hz0
  have Hz1 := hide hz1
  have Hz2 := hide hz2
  clear hi0 hz0 hz1 hz2
  go_enter Tryd.func4, Tryd.ntmps4
  go_wp2_with fail
  refine (NW.out _).mono ?_
  rintro e w1 ⟨rfl, hb1⟩
  have hB1 : Below w.heap.size w w1 := by
    refine Below.trans ?_ (Below.mono hb1 ?_)
    · go_grown
    · first | omega | (simp; done) | (simp; omega)
  have hy1 : w.heap.size ≤ w1.heap.size := hB1.size
  clear hb1
  go_wp2_with fail
  refine (T5.out _).mono ?_
  rintro e w2 ⟨rfl, hb2⟩
  have hB2 : Below w.heap.size w w2 := by
    refine Below.trans ?_ (Below.mono hb2 ?_)
    · go_grown
    · first | omega | (simp; done) | (simp; omega)
  have o2_w : ObjAt w2 (w1.heap.size) 23 [.int .i64 (-1), .int .i64 0] := ObjAt.below (objNew (by simp)) hb2
  have q2_w_0 := o2_w.cell (i := 0) rfl
  have f2_w_0 := o2_w.free 0
  have q2_w_1 := o2_w.cell (i := 1) rfl
  have f2_w_1 := o2_w.free 1
  have l2_w := o2_w.lt
  have H2_w := hide o2_w
  clear o2_w
  have hy2 : w.heap.size ≤ w2.heap.size := hB2.size
  clear hb2
  go_wp2_with fail
  refine (T6.out _).mono ?_
  rintro e w3 ⟨rfl, hb3⟩
  have hB3 : Below w.heap.size w w3 := by
    refine Below.trans ?_ (Below.mono hb3 ?_)
    · go_grown
    · first | omega | (simp; done) | (simp; omega)
  have o3_w : ObjAt w3 (w1.heap.size) 23 [.int .i64 (-1), .int .i64 0] := ObjAt.below (ObjAt.alloc (H2_w.out) _) hb3
  have o3_one : ObjAt w3 (w2.heap.size) 23 [.int .i64 5, .int .i64 1] := ObjAt.below (objNew (by simp)) hb3
  clear q2_w_0 f2_w_0 q2_w_1 f2_w_1 H2_w
  have q3_w_0 := o3_w.cell (i := 0) rfl
  have f3_w_0 := o3_w.free 0
  have q3_w_1 := o3_w.cell (i := 1) rfl
  have f3_w_1 := o3_w.free 1
  have l3_w := o3_w.lt
  have H3_w := hide o3_w
  clear o3_w
  have q3_one_0 := o3_one.cell (i := 0) rfl
  have q3_one_1 := o3_one.cell (i := 1) rfl
  have l3_one := o3_one.lt
  have H3_one := hide o3_one
  clear o3_one
  have hy3 : w.heap.size ≤ w3.heap.size := hB3.size
  clear hb3
  go_wp2_with fail
  refine (T7.out _).mono ?_
  rintro e w4 ⟨rfl, hb4⟩
  have hB4 : Below w.heap.size w w4 := by
    refine Below.trans ?_ (Below.mono hb4 ?_)
    · go_grown
    · first | omega | (simp; done) | (simp; omega)
  have o4_w : ObjAt w4 (w1.heap.size) 23 [.int .i64 (-1), .int .i64 0] := ObjAt.below (ObjAt.alloc (H3_w.out) _) hb4
  have o4_one : ObjAt w4 (w2.heap.size) 23 [.int .i64 5, .int .i64 1] := ObjAt.below (ObjAt.alloc (H3_one.out) _) hb4
  clear q3_w_0 f3_w_0 q3_w_1 f3_w_1 H3_w q3_one_0 q3_one_1 H3_one
  have q4_w_0 := o4_w.cell (i := 0) rfl
  have f4_w_0 := o4_w.free 0
  have q4_w_1 := o4_w.cell (i := 1) rfl
  have f4_w_1 := o4_w.free 1
  have l4_w := o4_w.lt
  have H4_w := hide o4_w
  clear o4_w
  have q4_one_0 := o4_one.cell (i := 0) rfl
  have q4_one_1 := o4_one.cell (i := 1) rfl
  have l4_one := o4_one.lt
  have H4_one := hide o4_one
  clear o4_one
  have hy4 : w.heap.size ≤ w4.heap.size := hB4.size
  clear hb4
  go_wp2_with fail
  refine (error_any 7 7 _ (hE.below (B := w.heap.size) (by go_grown) hE.pos)).mono ?_
  rintro e w5 ⟨rfl, hb5⟩
  have hB5 : Below w.heap.size w w5 := by
    refine Below.trans ?_ (Below.mono hb5 ?_)
    · go_grown
    · first | omega | (simp; done) | (simp; omega)
  have o5_w : ObjAt w5 (w1.heap.size) 23 [.int .i64 (-1), .int .i64 0] := ObjAt.below (ObjAt.alloc (H4_w.out) _) hb5
  have o5_one : ObjAt w5 (w2.heap.size) 23 [.int .i64 5, .int .i64 1] := ObjAt.below (ObjAt.alloc (H4_one.out) _) hb5
  have o5_two : ObjAt w5 (w4.heap.size) 23 [.int .i64 5, .int .i64 5] := ObjAt.below (objNew (by simp)) hb5
  clear q4_w_0 f4_w_0 q4_w_1 f4_w_1 H4_w q4_one_0 q4_one_1 H4_one
  have q5_w_0 := o5_w.cell (i := 0) rfl
  have f5_w_0 := o5_w.free 0
  have q5_w_1 := o5_w.cell (i := 1) rfl
  have f5_w_1 := o5_w.free 1
  have l5_w := o5_w.lt
  have H5_w := hide o5_w
  clear o5_w
  have q5_one_0 := o5_one.cell (i := 0) rfl
  have q5_one_1 := o5_one.cell (i := 1) rfl
  have l5_one := o5_one.lt
  have H5_one := hide o5_one
  clear o5_one
  have q5_two_0 := o5_two.cell (i := 0) rfl
  have q5_two_1 := o5_two.cell (i := 1) rfl
  have l5_two := o5_two.lt
  have H5_two := hide o5_two
  clear o5_two
  have hy5 : w.heap.size ≤ w5.heap.size := hB5.size
  clear hb5
  go_wp2_with fail
  go_loopw [10, 11] (fun v i wr => ∃ (k : Nat) (T : Int) (b : Nat) (ts : List Int), i = .int .i64 k ∧ k ≤ len ∧ k ≤ 60 ∧ Hid (woJ T b ts) ∧ ts.length ≤ k ∧ wr.ownsRow w5.heap.size 3 1 v ts.length (ts.map (Value.int .i64)) ∧ ObjAt wr w1.heap.size 23 [.int .i64 T, .int .i64 (b : Int)] ∧ w5.heap.size ≤ wr.heap.size ∧ Below w.heap.size w wr) (fun _ i _ => 100 - (intOf i).toNat)
  case atStart => exact ⟨0, -1, 0, [], rfl, by omega, by omega, hide ⟨by decide, by simp, fun n h1 h2 h3 => by omega⟩, by simp, World.ownsRow_nil _ _ _ _, H5_w.out, Nat.le_refl _, by go_grown⟩
  case round =>
    obtain ⟨k, T, b, ts, rfl, hk, hk2, hJ, htl, hown, ho, hsz, hb⟩ := hrel
    clear NW T5 T6 T7
    have p0 := ho.cell (i := 0) rfl
    have p1 := ho.cell (i := 1) rfl
    have g0 := ho.free 0
    have g1 := ho.free 1
    have l_w := ho.lt
    have O_w := hide ho
    have hyr : w.heap.size ≤ wr.heap.size := hb.size
    have hw5 : w1.heap.size < w5.heap.size := l5_w
    have hw1 : w.heap.size ≤ w1.heap.size := hB1.size
    obtain ⟨av, cv, rfl, hnc, hcm, hrow⟩ := own_slice hown
    have Hown := hide hown
    have Hrow := hide hrow
    clear ho hown hrow
    by_cases h1 : k < len
    · by_cases h2 : k < 60
      · obtain ⟨ab, ao, rfl, hlt1, _, _, hc1⟩ := HR.out.split.resolve_left (by omega)
        have CZ := hide (fun (W : World) (hB : Below w.heap.size w W) => (hB.cell (p := ⟨ab, ao + k, none⟩) hlt1).trans (hc1 k h1))
        obtain ⟨x, hx⟩ : ∃ x, x = zs.getD k 0 := ⟨_, rfl⟩
        rw [← hx] at CZ
        have cz := CZ.out wr hb
        have lu : ab < wr.heap.size := by omega
        have hlx : ab < w5.heap.size := by omega
        clear hx hc1
        rcases wo_step (n := x) hJ.out with ⟨htm, X, Y, hJ2, hni, hT⟩ | ⟨c, hcs, hT⟩
        ·
          obtain ⟨hT1, hT2, _, _, _, _⟩ := winE_ok hJ.out.1
          have TK := hide hT
          clear hT
          have TK : Hid (∀ W, Calls Tryd.prog 19 #[.agg #[.int .i64 T, .int .i64 (b : Int)], .int .i64 x] W fun e w' => e = .returned (.tuple #[.agg #[.int .i64 X, .int .i64 (Y : Int)], .nilIface]) ∧ Below W.heap.size W w') := TK
          go_wp2_with fail
          have HS21 : Hid (∀ W, Below wr.heap.size wr W → W.cell? ⟨w1.heap.size, 0, none⟩ = some (.int .i64 T) ∧ W.cell? ⟨w1.heap.size, 1, none⟩ = some (.int .i64 (b : Int)) ∧ W.cell? ⟨ab, ao + k, none⟩ = some (.int .i64 x)) := by
            intro W hW
            refine ⟨(hW.cell (p := ⟨w1.heap.size, 0, none⟩) (by simp; omega)).trans (by assumption), (hW.cell (p := ⟨w1.heap.size, 1, none⟩) (by simp; omega)).trans (by assumption), (hW.cell (p := ⟨ab, ao + k, none⟩) (by simp; omega)).trans (by assumption)⟩
          go_region_held3 (fun w' => w'.cell? ⟨w1.heap.size, 0, none⟩ = some (.int .i64 T) ∧ w'.cell? ⟨w1.heap.size, 1, none⟩ = some (.int .i64 (b : Int)) ∧ w'.cell? ⟨ab, ao + k, none⟩ = some (.int .i64 x)) (first | exact HS21.out _ (by assumption) | (refine HS21.out _ ?_; go_grown) | go_keep)
            (first | (go_at_call 19; refine (TK.out _).mono ?_; rintro e w21 ⟨rfl, hb21⟩; have hw21 : Below wr.heap.size wr w21 := Below.trans (by go_grown) (Below.mono hb21 (by first | omega | (simp; done) | (simp; omega))); obtain ⟨c21, d21⟩ := bcell hb21; have hs21 := hb21.size; (try simp at hs21)))
          ·
            have hB21 : Below w.heap.size w w21 := by
              refine Below.trans ?_ (Below.mono hb21 ?_)
              · go_grown
              · first | omega | (simp; done) | (simp; omega)
            have o21_w : ObjAt w21 (w1.heap.size) 23 [.int .i64 T, .int .i64 (b : Int)] := ObjAt.below (ObjAt.drew (O_w.out)) hb21
            clear p0 p1 g0 g1 O_w
            have q21_w_0 := o21_w.cell (i := 0) rfl
            have f21_w_0 := o21_w.free 0
            have q21_w_1 := o21_w.cell (i := 1) rfl
            have f21_w_1 := o21_w.free 1
            have l21_w := o21_w.lt
            have H21_w := hide o21_w
            clear o21_w
            have hy21 : w.heap.size ≤ w21.heap.size := hB21.size
            clear hb21
            clear HS21 c21 d21 hs21
            obtain ⟨w22, hW22⟩ : ∃ W : World, W = w21.alloc (.cells #[.int .i64 X, .int .i64 (Y : Int)] 23) := ⟨_, rfl⟩
            have hB22 : Below w.heap.size w w22 := by rw [hW22]; go_grown
            have o22_w : ObjAt w22 (w1.heap.size) 23 [.int .i64 T, .int .i64 (b : Int)] := by rw [hW22]; exact ObjAt.alloc (H21_w.out) _
            have o22_x : ObjAt w22 (w21.heap.size) 23 [.int .i64 X, .int .i64 (Y : Int)] := by rw [hW22]; exact objNew (by simp)
            have hwr : Below wr.heap.size wr w22 := by rw [hW22]; exact hw21.alloc hw21.size _
            rw [← hW22]
            clear hW22
            clear q21_w_0 f21_w_0 q21_w_1 f21_w_1 H21_w
            have q22_w_0 := o22_w.cell (i := 0) rfl
            have f22_w_0 := o22_w.free 0
            have q22_w_1 := o22_w.cell (i := 1) rfl
            have f22_w_1 := o22_w.free 1
            have l22_w := o22_w.lt
            have H22_w := hide o22_w
            clear o22_w
            have q22_x_0 := o22_x.cell (i := 0) rfl
            have f22_x_0 := o22_x.free 0
            have q22_x_1 := o22_x.cell (i := 1) rfl
            have f22_x_1 := o22_x.free 1
            have l22_x := o22_x.lt
            have H22_x := hide o22_x
            clear o22_x
            have hy22 : w.heap.size ≤ w22.heap.size := hB22.size
            have hxne : ∀ q, (Value.slice av ts.length cv).ownBlock = some q → q ≠ w21.heap.size := fun q hq => by have := (Hown.out.lt q hq).2; have := hw21.size; omega
            have hownX : w22.ownsRow w5.heap.size 3 1 (.slice av ts.length cv) ts.length (ts.map (Value.int .i64)) := own_below Hown.out hwr
            have HROW : Hid (ts.length = 0 ∨ ∃ g, av = some ⟨g, 0, none⟩ ∧ ∀ i, i < ts.length → w22.cell? ⟨g, i, none⟩ = some (.int .i64 (ts.getD i 0))) := hide (Hrow.out.imp id (fun ⟨g, h1, _, h3, h4⟩ => ⟨g, h1, fun i hi => (hwr.cell (p := ⟨g, i, none⟩) h3).trans (h4 i hi)⟩))
            have hn60 : ts.length ≤ 60 := by omega
            have HOX := hide hownX
            clear hownX Hown Hrow
            have cz := CZ.out _ hB22
            have lu : ab < w22.heap.size := by omega
            go_wp2_with fail
            go_loopw [14, 15] (fun h kk ww => ∃ j m : Nat, kk = .int .i64 (j : Int) ∧ j ≤ ts.length ∧ h = .bool ((ts.take j).any (· == x)) ∧ ww = w22.drewN m) (fun _ kk _ => 100 - (intOf kk).toNat)
            case atStart => exact ⟨0, 0, rfl, by omega, rfl, rfl⟩
            case round =>
              obtain ⟨j, m, rfl, hj, rfl, rfl⟩ := hrel
              by_cases hjl : j < ts.length
              · obtain ⟨gb, rfl, hgc⟩ := HROW.out.resolve_left (by omega)
                have cj := hgc j hjl
                have hs := any_snoc ts j hjl x
                obtain ⟨y, hy⟩ : ∃ y, y = ts.getD j 0 := ⟨_, rfl⟩
                rw [← hy] at cj hs
                obtain ⟨q, hq⟩ : ∃ q, q = (ts.take j).any (· == x) := ⟨_, rfl⟩
                rw [← hq] at hs ⊢
                have HS := hide hs
                clear hs hy hq hgc
                cases q
                · go_wp2
                  go_quiet (fail)
                  go_wp2
                  go_roundw
                  case rel => exact ⟨j + 1, _, by go_num, by omega, by rw [HS.out]; simp [*], rfl⟩
                  case measure => simp [intOf] <;> omega
                · go_wp2
                  go_quiet (fail)
                  go_wp2
                  go_roundw
                  case rel => exact ⟨j + 1, _, by go_num, by omega, by rw [HS.out]; simp [*], rfl⟩
                  case measure => simp [intOf] <;> omega
              · obtain rfl : j = ts.length := by omega
                rw [List.take_length]
                rw [show (ts.any (· == x)) = false from by rw [List.any_eq_false]; intro y hy he; exact hni ((beq_iff_eq.1 he) ▸ hy)]
                obtain ⟨w23, hW23⟩ : ∃ W : World, W = w22.drewN m := ⟨_, rfl⟩
                have hB23 : Below w.heap.size w w23 := by rw [hW23]; exact bel_drewN hB22 m
                have o23_w : ObjAt w23 (w1.heap.size) 23 [.int .i64 T, .int .i64 (b : Int)] := by rw [hW23]; exact ObjAt.drewN (H22_w.out) _
                have o23_x : ObjAt w23 (w21.heap.size) 23 [.int .i64 X, .int .i64 (Y : Int)] := by rw [hW23]; exact ObjAt.drewN (H22_x.out) _
                have hwr2 : Below wr.heap.size wr w23 := by rw [hW23]; exact bel_drewN hwr m
                have hown9 : w23.ownsRow w5.heap.size 3 1 (.slice av ts.length cv) ts.length (ts.map (Value.int .i64)) := by rw [hW23]; exact HOX.out
                rw [← hW23]
                clear hW23
                clear q22_w_0 f22_w_0 q22_w_1 f22_w_1 H22_w q22_x_0 f22_x_0 q22_x_1 f22_x_1 H22_x
                have q23_w_0 := o23_w.cell (i := 0) rfl
                have f23_w_0 := o23_w.free 0
                have q23_w_1 := o23_w.cell (i := 1) rfl
                have f23_w_1 := o23_w.free 1
                have l23_w := o23_w.lt
                have H23_w := hide o23_w
                clear o23_w
                have q23_x_0 := o23_x.cell (i := 0) rfl
                have f23_x_0 := o23_x.free 0
                have q23_x_1 := o23_x.cell (i := 1) rfl
                have f23_x_1 := o23_x.free 1
                have l23_x := o23_x.lt
                have H23_x := hide o23_x
                clear o23_x
                have hy23 : w.heap.size ≤ w23.heap.size := hB23.size
                have HOX := hide hown9
                have hwr2s := hwr2.size
                clear hown9 HROW hwr
                have CK : Hid (∀ W, Calls Tryd.prog 17 #[.agg #[.int .i64 X, .int .i64 (Y : Int)]] W fun e w' => e = .returned .nilIface ∧ Below W.heap.size W w') := windowCheck (c := 0) hJ2.1
                go_wp2_with fail
                refine (CK.out _).mono ?_
                rintro e w24 ⟨rfl, hb24⟩
                have hB24 : Below w.heap.size w w24 := by
                  refine Below.trans ?_ (Below.mono hb24 ?_)
                  · go_grown
                  · first | omega | (simp; done) | (simp; omega)
                have o24_w : ObjAt w24 (w1.heap.size) 23 [.int .i64 T, .int .i64 (b : Int)] := ObjAt.below (H23_w.out) hb24
                have o24_x : ObjAt w24 (w21.heap.size) 23 [.int .i64 X, .int .i64 (Y : Int)] := ObjAt.below (H23_x.out) hb24
                clear q23_w_0 f23_w_0 q23_w_1 f23_w_1 H23_w q23_x_0 f23_x_0 q23_x_1 f23_x_1 H23_x
                have q24_w_0 := o24_w.cell (i := 0) rfl
                have f24_w_0 := o24_w.free 0
                have q24_w_1 := o24_w.cell (i := 1) rfl
                have f24_w_1 := o24_w.free 1
                have l24_w := o24_w.lt
                have H24_w := hide o24_w
                clear o24_w
                have q24_x_0 := o24_x.cell (i := 0) rfl
                have f24_x_0 := o24_x.free 0
                have q24_x_1 := o24_x.cell (i := 1) rfl
                have f24_x_1 := o24_x.free 1
                have l24_x := o24_x.lt
                have H24_x := hide o24_x
                clear o24_x
                have hy24 : w.heap.size ≤ w24.heap.size := hB24.size
                have hown24 : w24.ownsRow w5.heap.size 3 1 (.slice av ts.length cv) ts.length (ts.map (Value.int .i64)) := own_below HOX.out hb24
                have hs5 : w5.heap.size ≤ w24.heap.size := by have := hb24.size; omega
                have cz := CZ.out _ hB24
                have lu : ab < w24.heap.size := by omega
                clear hb24 HOX
                go_wp2_with (first | (at_builtin; refine wpList_append_own _ rfl _ _ 35 rfl (w5.heap.size) 3 i0 (.int .i64 0) 1 8 Tryd.underlying35 Hi0.out Hz0.out Hz1.out Hz2.out rfl (by decide) _ _ _ rfl (hown24.alloc _) ⟨w24.heap.size, 0, none⟩ 1 1 [.int .i64 x] rfl rfl ?c1 ?c2 ?c3 ?c4 ?c5 ?_))
                case c1 =>
                  intro j u hj
                  match j, hj with
                  | 0, hj => simp at hj; subst hj; simp [Addr.add]
                case c2 => intro u hu; simp at hu; subst hu; rfl
                case c3 => unfold maxLen; omega
                case c4 => omega
                case c5 => simp; omega
                intro v2 w40 hown2 hgrow _
                have hg0 : ∀ q, (Value.slice av ts.length cv).ownBlock = some q → w5.heap.size ≤ q := own_blk hown24
                have o_w : ObjAt w40 w1.heap.size 23 [.int .i64 T, .int .i64 (b : Int)] := grown_obj hgrow (ObjAt.alloc H24_w.out _) (fun q hq => by have := hg0 q hq; omega)
                have hne : ∀ q, (Value.slice av ts.length cv).ownBlock = some q → q ≠ w21.heap.size := fun q hq => by have := (hown24.lt q hq).2; have := hB24.size; have := hxne q hq; omega
                have o_x : ObjAt w40 (w21.heap.size) 23 [.int .i64 X, .int .i64 (Y : Int)] := grown_obj hgrow (ObjAt.alloc H24_x.out _) hne
                have hB40 : Below w.heap.size w w40 := grown_below (hB24.alloc (by omega) _) hgrow (fun q hq => by have := hg0 q hq; omega) (by simp; omega)
                have hs40 : w5.heap.size ≤ w40.heap.size := by have := hgrow.size; simp at this; omega
                have l40 : w21.heap.size < w40.heap.size := o_x.lt
                have t_w_0 := o_w.cell (i := 0) rfl
                have t_w_1 := o_w.cell (i := 1) rfl
                have t_x_0 := o_x.cell (i := 0) rfl
                have t_x_1 := o_x.cell (i := 1) rfl
                have t_f_0 := o_w.free 0
                have t_f_1 := o_w.free 1
                have OW2 := hide o_w
                have HO2 := hide (wo_app hown2)
                clear o_w o_x hne hg0 hgrow hown2 hown24 q24_w_0 f24_w_0 q24_w_1 f24_w_1 H24_w q24_x_0 f24_x_0 q24_x_1 f24_x_1 H24_x
                go_wp2
                go_roundw
                case rel => exact ⟨k + 1, X, Y, ts ++ [x], by go_num, by omega, by omega, hide hJ2, by simp; omega, ownsRow_setCell_below (ownsRow_setCell_below HO2.out (by simp; omega) _) (by simp; omega) _, ObjAt.set2 OW2.out, by simp; omega, Below.set2 hB40 (by omega)⟩
                case measure => simp [intOf] <;> omega
          ·
            have hB21 : Below w.heap.size w w21 := by
              refine Below.trans ?_ (Below.mono hb21 ?_)
              · go_grown
              · first | omega | (simp; done) | (simp; omega)
            have o21_w : ObjAt w21 (w1.heap.size) 23 [.int .i64 T, .int .i64 (b : Int)] := ObjAt.below (ObjAt.drew (ObjAt.alloc (O_w.out) _)) hb21
            have o21_x : ObjAt w21 (wr.heap.size) 23 [.int .i64 0, .int .i64 0] := ObjAt.below (ObjAt.drew (objNew (by simp))) hb21
            clear p0 p1 g0 g1 O_w
            have q21_w_0 := o21_w.cell (i := 0) rfl
            have f21_w_0 := o21_w.free 0
            have q21_w_1 := o21_w.cell (i := 1) rfl
            have f21_w_1 := o21_w.free 1
            have l21_w := o21_w.lt
            have H21_w := hide o21_w
            clear o21_w
            have q21_x_0 := o21_x.cell (i := 0) rfl
            have f21_x_0 := o21_x.free 0
            have q21_x_1 := o21_x.cell (i := 1) rfl
            have f21_x_1 := o21_x.free 1
            have l21_x := o21_x.lt
            have H21_x := hide o21_x
            clear o21_x
            have hy21 : w.heap.size ≤ w21.heap.size := hB21.size
            clear hb21
            clear HS21 c21 d21 hs21
            obtain ⟨w22, hW22⟩ : ∃ W : World, W = (w21.setCell ⟨wr.heap.size, 0, none⟩ (.int .i64 X)).setCell ⟨wr.heap.size, 1, none⟩ (.int .i64 (Y : Int)) := ⟨_, rfl⟩
            have hB22 : Below w.heap.size w w22 := by rw [hW22]; go_grown
            have o22_w : ObjAt w22 (w1.heap.size) 23 [.int .i64 T, .int .i64 (b : Int)] := by rw [hW22]; exact ObjAt.other2 (H21_w.out) (by omega)
            have o22_x : ObjAt w22 (wr.heap.size) 23 [.int .i64 X, .int .i64 (Y : Int)] := by rw [hW22]; exact ObjAt.set2 (H21_x.out)
            have hwr : Below wr.heap.size wr w22 := by rw [hW22]; exact Below.set2 hw21 (Nat.le_refl _)
            rw [← hW22]
            clear hW22
            clear q21_w_0 f21_w_0 q21_w_1 f21_w_1 H21_w q21_x_0 f21_x_0 q21_x_1 f21_x_1 H21_x
            have q22_w_0 := o22_w.cell (i := 0) rfl
            have f22_w_0 := o22_w.free 0
            have q22_w_1 := o22_w.cell (i := 1) rfl
            have f22_w_1 := o22_w.free 1
            have l22_w := o22_w.lt
            have H22_w := hide o22_w
            clear o22_w
            have q22_x_0 := o22_x.cell (i := 0) rfl
            have f22_x_0 := o22_x.free 0
            have q22_x_1 := o22_x.cell (i := 1) rfl
            have f22_x_1 := o22_x.free 1
            have l22_x := o22_x.lt
            have H22_x := hide o22_x
            clear o22_x
            have hy22 : w.heap.size ≤ w22.heap.size := hB22.size
            have hxne : ∀ q, (Value.slice av ts.length cv).ownBlock = some q → q ≠ wr.heap.size := fun q hq => by have := (Hown.out.lt q hq).2; have := hw21.size; omega
            have hownX : w22.ownsRow w5.heap.size 3 1 (.slice av ts.length cv) ts.length (ts.map (Value.int .i64)) := own_below Hown.out hwr
            have HROW : Hid (ts.length = 0 ∨ ∃ g, av = some ⟨g, 0, none⟩ ∧ ∀ i, i < ts.length → w22.cell? ⟨g, i, none⟩ = some (.int .i64 (ts.getD i 0))) := hide (Hrow.out.imp id (fun ⟨g, h1, _, h3, h4⟩ => ⟨g, h1, fun i hi => (hwr.cell (p := ⟨g, i, none⟩) h3).trans (h4 i hi)⟩))
            have hn60 : ts.length ≤ 60 := by omega
            have HOX := hide hownX
            clear hownX Hown Hrow
            have cz := CZ.out _ hB22
            have lu : ab < w22.heap.size := by omega
            go_wp2_with fail
            go_loopw [14, 15] (fun h kk ww => ∃ j m : Nat, kk = .int .i64 (j : Int) ∧ j ≤ ts.length ∧ h = .bool ((ts.take j).any (· == x)) ∧ ww = w22.drewN m) (fun _ kk _ => 100 - (intOf kk).toNat)
            case atStart => exact ⟨0, 0, rfl, by omega, rfl, rfl⟩
            case round =>
              obtain ⟨j, m, rfl, hj, rfl, rfl⟩ := hrel
              by_cases hjl : j < ts.length
              · obtain ⟨gb, rfl, hgc⟩ := HROW.out.resolve_left (by omega)
                have cj := hgc j hjl
                have hs := any_snoc ts j hjl x
                obtain ⟨y, hy⟩ : ∃ y, y = ts.getD j 0 := ⟨_, rfl⟩
                rw [← hy] at cj hs
                obtain ⟨q, hq⟩ : ∃ q, q = (ts.take j).any (· == x) := ⟨_, rfl⟩
                rw [← hq] at hs ⊢
                have HS := hide hs
                clear hs hy hq hgc
                cases q
                · go_wp2
                  go_quiet (fail)
                  go_wp2
                  go_roundw
                  case rel => exact ⟨j + 1, _, by go_num, by omega, by rw [HS.out]; simp [*], rfl⟩
                  case measure => simp [intOf] <;> omega
                · go_wp2
                  go_quiet (fail)
                  go_wp2
                  go_roundw
                  case rel => exact ⟨j + 1, _, by go_num, by omega, by rw [HS.out]; simp [*], rfl⟩
                  case measure => simp [intOf] <;> omega
              · obtain rfl : j = ts.length := by omega
                rw [List.take_length]
                rw [show (ts.any (· == x)) = false from by rw [List.any_eq_false]; intro y hy he; exact hni ((beq_iff_eq.1 he) ▸ hy)]
                obtain ⟨w23, hW23⟩ : ∃ W : World, W = w22.drewN m := ⟨_, rfl⟩
                have hB23 : Below w.heap.size w w23 := by rw [hW23]; exact bel_drewN hB22 m
                have o23_w : ObjAt w23 (w1.heap.size) 23 [.int .i64 T, .int .i64 (b : Int)] := by rw [hW23]; exact ObjAt.drewN (H22_w.out) _
                have o23_x : ObjAt w23 (wr.heap.size) 23 [.int .i64 X, .int .i64 (Y : Int)] := by rw [hW23]; exact ObjAt.drewN (H22_x.out) _
                have hwr2 : Below wr.heap.size wr w23 := by rw [hW23]; exact bel_drewN hwr m
                have hown9 : w23.ownsRow w5.heap.size 3 1 (.slice av ts.length cv) ts.length (ts.map (Value.int .i64)) := by rw [hW23]; exact HOX.out
                rw [← hW23]
                clear hW23
                clear q22_w_0 f22_w_0 q22_w_1 f22_w_1 H22_w q22_x_0 f22_x_0 q22_x_1 f22_x_1 H22_x
                have q23_w_0 := o23_w.cell (i := 0) rfl
                have f23_w_0 := o23_w.free 0
                have q23_w_1 := o23_w.cell (i := 1) rfl
                have f23_w_1 := o23_w.free 1
                have l23_w := o23_w.lt
                have H23_w := hide o23_w
                clear o23_w
                have q23_x_0 := o23_x.cell (i := 0) rfl
                have f23_x_0 := o23_x.free 0
                have q23_x_1 := o23_x.cell (i := 1) rfl
                have f23_x_1 := o23_x.free 1
                have l23_x := o23_x.lt
                have H23_x := hide o23_x
                clear o23_x
                have hy23 : w.heap.size ≤ w23.heap.size := hB23.size
                have HOX := hide hown9
                have hwr2s := hwr2.size
                clear hown9 HROW hwr
                have CK : Hid (∀ W, Calls Tryd.prog 17 #[.agg #[.int .i64 X, .int .i64 (Y : Int)]] W fun e w' => e = .returned .nilIface ∧ Below W.heap.size W w') := windowCheck (c := 0) hJ2.1
                go_wp2_with fail
                refine (CK.out _).mono ?_
                rintro e w24 ⟨rfl, hb24⟩
                have hB24 : Below w.heap.size w w24 := by
                  refine Below.trans ?_ (Below.mono hb24 ?_)
                  · go_grown
                  · first | omega | (simp; done) | (simp; omega)
                have o24_w : ObjAt w24 (w1.heap.size) 23 [.int .i64 T, .int .i64 (b : Int)] := ObjAt.below (H23_w.out) hb24
                have o24_x : ObjAt w24 (wr.heap.size) 23 [.int .i64 X, .int .i64 (Y : Int)] := ObjAt.below (H23_x.out) hb24
                clear q23_w_0 f23_w_0 q23_w_1 f23_w_1 H23_w q23_x_0 f23_x_0 q23_x_1 f23_x_1 H23_x
                have q24_w_0 := o24_w.cell (i := 0) rfl
                have f24_w_0 := o24_w.free 0
                have q24_w_1 := o24_w.cell (i := 1) rfl
                have f24_w_1 := o24_w.free 1
                have l24_w := o24_w.lt
                have H24_w := hide o24_w
                clear o24_w
                have q24_x_0 := o24_x.cell (i := 0) rfl
                have f24_x_0 := o24_x.free 0
                have q24_x_1 := o24_x.cell (i := 1) rfl
                have f24_x_1 := o24_x.free 1
                have l24_x := o24_x.lt
                have H24_x := hide o24_x
                clear o24_x
                have hy24 : w.heap.size ≤ w24.heap.size := hB24.size
                have hown24 : w24.ownsRow w5.heap.size 3 1 (.slice av ts.length cv) ts.length (ts.map (Value.int .i64)) := own_below HOX.out hb24
                have hs5 : w5.heap.size ≤ w24.heap.size := by have := hb24.size; omega
                have cz := CZ.out _ hB24
                have lu : ab < w24.heap.size := by omega
                clear hb24 HOX
                go_wp2_with (first | (at_builtin; refine wpList_append_own _ rfl _ _ 35 rfl (w5.heap.size) 3 i0 (.int .i64 0) 1 8 Tryd.underlying35 Hi0.out Hz0.out Hz1.out Hz2.out rfl (by decide) _ _ _ rfl (hown24.alloc _) ⟨w24.heap.size, 0, none⟩ 1 1 [.int .i64 x] rfl rfl ?c1 ?c2 ?c3 ?c4 ?c5 ?_))
                case c1 =>
                  intro j u hj
                  match j, hj with
                  | 0, hj => simp at hj; subst hj; simp [Addr.add]
                case c2 => intro u hu; simp at hu; subst hu; rfl
                case c3 => unfold maxLen; omega
                case c4 => omega
                case c5 => simp; omega
                intro v2 w40 hown2 hgrow _
                have hg0 : ∀ q, (Value.slice av ts.length cv).ownBlock = some q → w5.heap.size ≤ q := own_blk hown24
                have o_w : ObjAt w40 w1.heap.size 23 [.int .i64 T, .int .i64 (b : Int)] := grown_obj hgrow (ObjAt.alloc H24_w.out _) (fun q hq => by have := hg0 q hq; omega)
                have hne : ∀ q, (Value.slice av ts.length cv).ownBlock = some q → q ≠ wr.heap.size := fun q hq => by have := (hown24.lt q hq).2; have := hB24.size; have := hxne q hq; omega
                have o_x : ObjAt w40 (wr.heap.size) 23 [.int .i64 X, .int .i64 (Y : Int)] := grown_obj hgrow (ObjAt.alloc H24_x.out _) hne
                have hB40 : Below w.heap.size w w40 := grown_below (hB24.alloc (by omega) _) hgrow (fun q hq => by have := hg0 q hq; omega) (by simp; omega)
                have hs40 : w5.heap.size ≤ w40.heap.size := by have := hgrow.size; simp at this; omega
                have l40 : wr.heap.size < w40.heap.size := o_x.lt
                have t_w_0 := o_w.cell (i := 0) rfl
                have t_w_1 := o_w.cell (i := 1) rfl
                have t_x_0 := o_x.cell (i := 0) rfl
                have t_x_1 := o_x.cell (i := 1) rfl
                have t_f_0 := o_w.free 0
                have t_f_1 := o_w.free 1
                have OW2 := hide o_w
                have HO2 := hide (wo_app hown2)
                clear o_w o_x hne hg0 hgrow hown2 hown24 q24_w_0 f24_w_0 q24_w_1 f24_w_1 H24_w q24_x_0 f24_x_0 q24_x_1 f24_x_1 H24_x
                go_wp2
                go_roundw
                case rel => exact ⟨k + 1, X, Y, ts ++ [x], by go_num, by omega, by omega, hide hJ2, by simp; omega, ownsRow_setCell_below (ownsRow_setCell_below HO2.out (by simp; omega) _) (by simp; omega) _, ObjAt.set2 OW2.out, by simp; omega, Below.set2 hB40 (by omega)⟩
                case measure => simp [intOf] <;> omega
        ·
          obtain ⟨hT1, hT2, _, _, _, _⟩ := winE_ok hJ.out.1
          have TK := hide hT
          clear hT
          have tc : (c == 0) = false := by rcases hcs with ⟨rfl, _⟩ | ⟨rfl, _⟩ | ⟨rfl, _⟩ <;> rfl
          go_wp2_with fail
          have HS21 : Hid (∀ W, Below wr.heap.size wr W → W.cell? ⟨w1.heap.size, 0, none⟩ = some (.int .i64 T) ∧ W.cell? ⟨w1.heap.size, 1, none⟩ = some (.int .i64 (b : Int)) ∧ W.cell? ⟨ab, ao + k, none⟩ = some (.int .i64 x)) := by
            intro W hW
            refine ⟨(hW.cell (p := ⟨w1.heap.size, 0, none⟩) (by simp; omega)).trans (by assumption), (hW.cell (p := ⟨w1.heap.size, 1, none⟩) (by simp; omega)).trans (by assumption), (hW.cell (p := ⟨ab, ao + k, none⟩) (by simp; omega)).trans (by assumption)⟩
          go_region_held3 (fun w' => w'.cell? ⟨w1.heap.size, 0, none⟩ = some (.int .i64 T) ∧ w'.cell? ⟨w1.heap.size, 1, none⟩ = some (.int .i64 (b : Int)) ∧ w'.cell? ⟨ab, ao + k, none⟩ = some (.int .i64 x)) (first | exact HS21.out _ (by assumption) | (refine HS21.out _ ?_; go_grown) | go_keep)
            (first | (go_at_call 19; refine (TK.out _).mono ?_; rintro e w21 ⟨rfl, hb21⟩; have hw21 : Below wr.heap.size wr w21 := Below.trans (by go_grown) (Below.mono hb21 (by first | omega | (simp; done) | (simp; omega))); obtain ⟨c21, d21⟩ := bcell hb21; have hs21 := hb21.size; (try simp at hs21)))
          ·
            have hB21 : Below w.heap.size w w21 := by
              refine Below.trans ?_ (Below.mono hb21 ?_)
              · go_grown
              · first | omega | (simp; done) | (simp; omega)
            have o21_w : ObjAt w21 (w1.heap.size) 23 [.int .i64 T, .int .i64 (b : Int)] := ObjAt.below (ObjAt.drew (O_w.out)) hb21
            clear p0 p1 g0 g1 O_w
            have q21_w_0 := o21_w.cell (i := 0) rfl
            have f21_w_0 := o21_w.free 0
            have q21_w_1 := o21_w.cell (i := 1) rfl
            have f21_w_1 := o21_w.free 1
            have l21_w := o21_w.lt
            have H21_w := hide o21_w
            clear o21_w
            have hy21 : w.heap.size ≤ w21.heap.size := hB21.size
            clear hb21
            clear HS21 c21 d21 hs21
            obtain ⟨w22, hW22⟩ : ∃ W : World, W = w21.alloc (.cells #[.int .i64 0, .int .i64 0] 23) := ⟨_, rfl⟩
            have hB22 : Below w.heap.size w w22 := by rw [hW22]; go_grown
            have o22_w : ObjAt w22 (w1.heap.size) 23 [.int .i64 T, .int .i64 (b : Int)] := by rw [hW22]; exact ObjAt.alloc (H21_w.out) _
            have o22_x : ObjAt w22 (w21.heap.size) 23 [.int .i64 0, .int .i64 0] := by rw [hW22]; exact objNew (by simp)
            have hwr : Below wr.heap.size wr w22 := by rw [hW22]; exact hw21.alloc hw21.size _
            rw [← hW22]
            clear hW22
            clear q21_w_0 f21_w_0 q21_w_1 f21_w_1 H21_w
            have q22_w_0 := o22_w.cell (i := 0) rfl
            have f22_w_0 := o22_w.free 0
            have q22_w_1 := o22_w.cell (i := 1) rfl
            have f22_w_1 := o22_w.free 1
            have l22_w := o22_w.lt
            have H22_w := hide o22_w
            clear o22_w
            have q22_x_0 := o22_x.cell (i := 0) rfl
            have f22_x_0 := o22_x.free 0
            have q22_x_1 := o22_x.cell (i := 1) rfl
            have f22_x_1 := o22_x.free 1
            have l22_x := o22_x.lt
            have H22_x := hide o22_x
            clear o22_x
            have hy22 : w.heap.size ≤ w22.heap.size := hB22.size
            have hxne : ∀ q, (Value.slice av ts.length cv).ownBlock = some q → q ≠ w21.heap.size := fun q hq => by have := (Hown.out.lt q hq).2; have := hw21.size; omega
            have hownX : w22.ownsRow w5.heap.size 3 1 (.slice av ts.length cv) ts.length (ts.map (Value.int .i64)) := own_below Hown.out hwr
            have HROW : Hid (ts.length = 0 ∨ ∃ g, av = some ⟨g, 0, none⟩ ∧ ∀ i, i < ts.length → w22.cell? ⟨g, i, none⟩ = some (.int .i64 (ts.getD i 0))) := hide (Hrow.out.imp id (fun ⟨g, h1, _, h3, h4⟩ => ⟨g, h1, fun i hi => (hwr.cell (p := ⟨g, i, none⟩) h3).trans (h4 i hi)⟩))
            have hn60 : ts.length ≤ 60 := by omega
            have HOX := hide hownX
            clear hownX Hown Hrow
            have cz := CZ.out _ hB22
            have lu : ab < w22.heap.size := by omega
            go_wp2_with fail
            go_loopw [14, 15] (fun h kk ww => ∃ j m : Nat, kk = .int .i64 (j : Int) ∧ j ≤ ts.length ∧ h = .bool ((ts.take j).any (· == x)) ∧ ww = w22.drewN m) (fun _ kk _ => 100 - (intOf kk).toNat)
            case atStart => exact ⟨0, 0, rfl, by omega, rfl, rfl⟩
            case round =>
              obtain ⟨j, m, rfl, hj, rfl, rfl⟩ := hrel
              by_cases hjl : j < ts.length
              · obtain ⟨gb, rfl, hgc⟩ := HROW.out.resolve_left (by omega)
                have cj := hgc j hjl
                have hs := any_snoc ts j hjl x
                obtain ⟨y, hy⟩ : ∃ y, y = ts.getD j 0 := ⟨_, rfl⟩
                rw [← hy] at cj hs
                obtain ⟨q, hq⟩ : ∃ q, q = (ts.take j).any (· == x) := ⟨_, rfl⟩
                rw [← hq] at hs ⊢
                have HS := hide hs
                clear hs hy hq hgc
                cases q
                · go_wp2
                  go_quiet (fail)
                  go_wp2
                  go_roundw
                  case rel => exact ⟨j + 1, _, by go_num, by omega, by rw [HS.out]; simp [*], rfl⟩
                  case measure => simp [intOf] <;> omega
                · go_wp2
                  go_quiet (fail)
                  go_wp2
                  go_roundw
                  case rel => exact ⟨j + 1, _, by go_num, by omega, by rw [HS.out]; simp [*], rfl⟩
                  case measure => simp [intOf] <;> omega
              · obtain rfl : j = ts.length := by omega
                rw [List.take_length]
                obtain ⟨q, hq⟩ : ∃ q, q = ts.any (· == x) := ⟨_, rfl⟩
                rw [← hq]
                obtain ⟨w23, hW23⟩ : ∃ W : World, W = w22.drewN m := ⟨_, rfl⟩
                have hB23 : Below w.heap.size w w23 := by rw [hW23]; exact bel_drewN hB22 m
                have o23_w : ObjAt w23 (w1.heap.size) 23 [.int .i64 T, .int .i64 (b : Int)] := by rw [hW23]; exact ObjAt.drewN (H22_w.out) _
                have o23_x : ObjAt w23 (w21.heap.size) 23 [.int .i64 0, .int .i64 0] := by rw [hW23]; exact ObjAt.drewN (H22_x.out) _
                have hwr2 : Below wr.heap.size wr w23 := by rw [hW23]; exact bel_drewN hwr m
                have hown9 : w23.ownsRow w5.heap.size 3 1 (.slice av ts.length cv) ts.length (ts.map (Value.int .i64)) := by rw [hW23]; exact HOX.out
                rw [← hW23]
                clear hW23
                clear q22_w_0 f22_w_0 q22_w_1 f22_w_1 H22_w q22_x_0 f22_x_0 q22_x_1 f22_x_1 H22_x
                have q23_w_0 := o23_w.cell (i := 0) rfl
                have f23_w_0 := o23_w.free 0
                have q23_w_1 := o23_w.cell (i := 1) rfl
                have f23_w_1 := o23_w.free 1
                have l23_w := o23_w.lt
                have H23_w := hide o23_w
                clear o23_w
                have q23_x_0 := o23_x.cell (i := 0) rfl
                have f23_x_0 := o23_x.free 0
                have q23_x_1 := o23_x.cell (i := 1) rfl
                have f23_x_1 := o23_x.free 1
                have l23_x := o23_x.lt
                have H23_x := hide o23_x
                clear o23_x
                have hy23 : w.heap.size ≤ w23.heap.size := hB23.size
                have HOX := hide hown9
                have hwr2s := hwr2.size
                clear hown9 HROW hwr
                have HO9 := HOX
                have cz := CZ.out _ hB23
                have lu : ab < w23.heap.size := by omega
                rcases hcs with ⟨rfl, hn | ⟨hn, hn'⟩⟩ | ⟨rfl, hn, hn', hn''⟩ | ⟨rfl, hn, hn', hn'', hmem⟩
                have hfin : w5.heap.size ≤ w23.heap.size := by omega
                ·
                  clear hq
                  have b0 : decide (0 ≤ x) = false := decide_eq_false (by omega)
                  go_wp2_with fail
                  go_quiet (fail)
                  obtain ⟨w24, hW24⟩ : ∃ W : World, W = w23.drewN nq := ⟨_, rfl⟩
                  have hB24 : Below w.heap.size w w24 := by rw [hW24]; exact bel_drewN hB23 nq
                  have o24_w : ObjAt w24 (w1.heap.size) 23 [.int .i64 T, .int .i64 (b : Int)] := by rw [hW24]; exact ObjAt.drewN (H23_w.out) _
                  have o24_x : ObjAt w24 (w21.heap.size) 23 [.int .i64 0, .int .i64 0] := by rw [hW24]; exact ObjAt.drewN (H23_x.out) _
                  have hfz : w5.heap.size ≤ w24.heap.size := by rw [hW24]; exact (show w5.heap.size ≤ w23.heap.size from by omega)
                  have hoz : w24.ownsRow w5.heap.size 3 1 (.slice av ts.length cv) ts.length (ts.map (Value.int .i64)) := by rw [hW24]; exact HO9.out
                  rw [← hW24]
                  clear hW24
                  clear q23_w_0 f23_w_0 q23_w_1 f23_w_1 H23_w q23_x_0 f23_x_0 q23_x_1 f23_x_1 H23_x
                  have q24_w_0 := o24_w.cell (i := 0) rfl
                  have f24_w_0 := o24_w.free 0
                  have q24_w_1 := o24_w.cell (i := 1) rfl
                  have f24_w_1 := o24_w.free 1
                  have l24_w := o24_w.lt
                  have H24_w := hide o24_w
                  clear o24_w
                  have q24_x_0 := o24_x.cell (i := 0) rfl
                  have f24_x_0 := o24_x.free 0
                  have q24_x_1 := o24_x.cell (i := 1) rfl
                  have f24_x_1 := o24_x.free 1
                  have l24_x := o24_x.lt
                  have H24_x := hide o24_x
                  clear o24_x
                  have hy24 : w.heap.size ≤ w24.heap.size := hB24.size
                  have HOZ := hide hoz
                  clear hoz
                  go_wp2
                  go_roundw
                  case rel => exact ⟨k + 1, T, b, ts, by go_num, by omega, by omega, hJ, by omega, HOZ.out, H24_w.out, by omega, by go_grown⟩
                  case measure => simp [intOf] <;> omega
                ·
                  clear hq
                  have b0 : decide (0 ≤ x) = true := decide_eq_true (by omega)
                  have b1 : decide (x ≤ 100000) = false := decide_eq_false (by omega)
                  go_wp2_with fail
                  go_quiet (fail)
                  obtain ⟨w24, hW24⟩ : ∃ W : World, W = w23.drewN nq := ⟨_, rfl⟩
                  have hB24 : Below w.heap.size w w24 := by rw [hW24]; exact bel_drewN hB23 nq
                  have o24_w : ObjAt w24 (w1.heap.size) 23 [.int .i64 T, .int .i64 (b : Int)] := by rw [hW24]; exact ObjAt.drewN (H23_w.out) _
                  have o24_x : ObjAt w24 (w21.heap.size) 23 [.int .i64 0, .int .i64 0] := by rw [hW24]; exact ObjAt.drewN (H23_x.out) _
                  have hfz : w5.heap.size ≤ w24.heap.size := by rw [hW24]; exact (show w5.heap.size ≤ w23.heap.size from by omega)
                  have hoz : w24.ownsRow w5.heap.size 3 1 (.slice av ts.length cv) ts.length (ts.map (Value.int .i64)) := by rw [hW24]; exact HO9.out
                  rw [← hW24]
                  clear hW24
                  clear q23_w_0 f23_w_0 q23_w_1 f23_w_1 H23_w q23_x_0 f23_x_0 q23_x_1 f23_x_1 H23_x
                  have q24_w_0 := o24_w.cell (i := 0) rfl
                  have f24_w_0 := o24_w.free 0
                  have q24_w_1 := o24_w.cell (i := 1) rfl
                  have f24_w_1 := o24_w.free 1
                  have l24_w := o24_w.lt
                  have H24_w := hide o24_w
                  clear o24_w
                  have q24_x_0 := o24_x.cell (i := 0) rfl
                  have f24_x_0 := o24_x.free 0
                  have q24_x_1 := o24_x.cell (i := 1) rfl
                  have f24_x_1 := o24_x.free 1
                  have l24_x := o24_x.lt
                  have H24_x := hide o24_x
                  clear o24_x
                  have hy24 : w.heap.size ≤ w24.heap.size := hB24.size
                  have HOZ := hide hoz
                  clear hoz
                  go_wp2
                  go_roundw
                  case rel => exact ⟨k + 1, T, b, ts, by go_num, by omega, by omega, hJ, by omega, HOZ.out, H24_w.out, by omega, by go_grown⟩
                  case measure => simp [intOf] <;> omega
                ·
                  clear hq
                  have b0 : decide (0 ≤ x) = true := decide_eq_true (by omega)
                  have b1 : decide (x ≤ 100000) = true := decide_eq_true (by omega)
                  have b2 : decide (T - 32 < x) = false := decide_eq_false (by omega)
                  go_wp2_with fail
                  go_quiet (fail)
                  obtain ⟨w24, hW24⟩ : ∃ W : World, W = w23.drewN nq := ⟨_, rfl⟩
                  have hB24 : Below w.heap.size w w24 := by rw [hW24]; exact bel_drewN hB23 nq
                  have o24_w : ObjAt w24 (w1.heap.size) 23 [.int .i64 T, .int .i64 (b : Int)] := by rw [hW24]; exact ObjAt.drewN (H23_w.out) _
                  have o24_x : ObjAt w24 (w21.heap.size) 23 [.int .i64 0, .int .i64 0] := by rw [hW24]; exact ObjAt.drewN (H23_x.out) _
                  have hfz : w5.heap.size ≤ w24.heap.size := by rw [hW24]; exact (show w5.heap.size ≤ w23.heap.size from by omega)
                  have hoz : w24.ownsRow w5.heap.size 3 1 (.slice av ts.length cv) ts.length (ts.map (Value.int .i64)) := by rw [hW24]; exact HO9.out
                  rw [← hW24]
                  clear hW24
                  clear q23_w_0 f23_w_0 q23_w_1 f23_w_1 H23_w q23_x_0 f23_x_0 q23_x_1 f23_x_1 H23_x
                  have q24_w_0 := o24_w.cell (i := 0) rfl
                  have f24_w_0 := o24_w.free 0
                  have q24_w_1 := o24_w.cell (i := 1) rfl
                  have f24_w_1 := o24_w.free 1
                  have l24_w := o24_w.lt
                  have H24_w := hide o24_w
                  clear o24_w
                  have q24_x_0 := o24_x.cell (i := 0) rfl
                  have f24_x_0 := o24_x.free 0
                  have q24_x_1 := o24_x.cell (i := 1) rfl
                  have f24_x_1 := o24_x.free 1
                  have l24_x := o24_x.lt
                  have H24_x := hide o24_x
                  clear o24_x
                  have hy24 : w.heap.size ≤ w24.heap.size := hB24.size
                  have HOZ := hide hoz
                  clear hoz
                  go_wp2
                  go_roundw
                  case rel => exact ⟨k + 1, T, b, ts, by go_num, by omega, by omega, hJ, by omega, HOZ.out, H24_w.out, by omega, by go_grown⟩
                  case measure => simp [intOf] <;> omega
                ·
                  have hqt : q = true := by rw [hq]; simpa using hmem
                  subst hqt
                  clear hmem
                  clear hq
                  have b0 : decide (0 ≤ x) = true := decide_eq_true (by omega)
                  have b1 : decide (x ≤ 100000) = true := decide_eq_true (by omega)
                  have b2 : decide (T - 32 < x) = true := decide_eq_true (by omega)
                  go_wp2_with fail
                  go_quiet (fail)
                  obtain ⟨w24, hW24⟩ : ∃ W : World, W = w23.drewN nq := ⟨_, rfl⟩
                  have hB24 : Below w.heap.size w w24 := by rw [hW24]; exact bel_drewN hB23 nq
                  have o24_w : ObjAt w24 (w1.heap.size) 23 [.int .i64 T, .int .i64 (b : Int)] := by rw [hW24]; exact ObjAt.drewN (H23_w.out) _
                  have o24_x : ObjAt w24 (w21.heap.size) 23 [.int .i64 0, .int .i64 0] := by rw [hW24]; exact ObjAt.drewN (H23_x.out) _
                  have hfz : w5.heap.size ≤ w24.heap.size := by rw [hW24]; exact (show w5.heap.size ≤ w23.heap.size from by omega)
                  have hoz : w24.ownsRow w5.heap.size 3 1 (.slice av ts.length cv) ts.length (ts.map (Value.int .i64)) := by rw [hW24]; exact HO9.out
                  rw [← hW24]
                  clear hW24
                  clear q23_w_0 f23_w_0 q23_w_1 f23_w_1 H23_w q23_x_0 f23_x_0 q23_x_1 f23_x_1 H23_x
                  have q24_w_0 := o24_w.cell (i := 0) rfl
                  have f24_w_0 := o24_w.free 0
                  have q24_w_1 := o24_w.cell (i := 1) rfl
                  have f24_w_1 := o24_w.free 1
                  have l24_w := o24_w.lt
                  have H24_w := hide o24_w
                  clear o24_w
                  have q24_x_0 := o24_x.cell (i := 0) rfl
                  have f24_x_0 := o24_x.free 0
                  have q24_x_1 := o24_x.cell (i := 1) rfl
                  have f24_x_1 := o24_x.free 1
                  have l24_x := o24_x.lt
                  have H24_x := hide o24_x
                  clear o24_x
                  have hy24 : w.heap.size ≤ w24.heap.size := hB24.size
                  have HO11 := hide hoz
                  clear hoz
                  go_wp2_with fail
                  refine (error_any 7 7 _ (hE.below (B := w.heap.size) (by go_grown) hE.pos)).mono ?_
                  rintro e w25 ⟨rfl, hb25⟩
                  have hB25 : Below w.heap.size w w25 := by
                    refine Below.trans ?_ (Below.mono hb25 ?_)
                    · go_grown
                    · first | omega | (simp; done) | (simp; omega)
                  have o25_w : ObjAt w25 (w1.heap.size) 23 [.int .i64 T, .int .i64 (b : Int)] := ObjAt.below (H24_w.out) hb25
                  have o25_x : ObjAt w25 (w21.heap.size) 23 [.int .i64 0, .int .i64 0] := ObjAt.below (H24_x.out) hb25
                  clear q24_w_0 f24_w_0 q24_w_1 f24_w_1 H24_w q24_x_0 f24_x_0 q24_x_1 f24_x_1 H24_x
                  have q25_w_0 := o25_w.cell (i := 0) rfl
                  have f25_w_0 := o25_w.free 0
                  have q25_w_1 := o25_w.cell (i := 1) rfl
                  have f25_w_1 := o25_w.free 1
                  have l25_w := o25_w.lt
                  have H25_w := hide o25_w
                  clear o25_w
                  have q25_x_0 := o25_x.cell (i := 0) rfl
                  have f25_x_0 := o25_x.free 0
                  have q25_x_1 := o25_x.cell (i := 1) rfl
                  have f25_x_1 := o25_x.free 1
                  have l25_x := o25_x.lt
                  have H25_x := hide o25_x
                  clear o25_x
                  have hy25 : w.heap.size ≤ w25.heap.size := hB25.size
                  have hfz2 : w5.heap.size ≤ w25.heap.size := Nat.le_trans hfz hb25.size
                  have hoz : w25.ownsRow w5.heap.size 3 1 (.slice av ts.length cv) ts.length (ts.map (Value.int .i64)) := own_below HO11.out hb25
                  clear hb25
                  have HOZ := hide hoz
                  clear hoz
                  go_wp2
                  go_roundw
                  case rel => exact ⟨k + 1, T, b, ts, by go_num, by omega, by omega, hJ, by omega, HOZ.out, H25_w.out, by omega, by go_grown⟩
                  case measure => simp [intOf] <;> omega
          ·
            have hB21 : Below w.heap.size w w21 := by
              refine Below.trans ?_ (Below.mono hb21 ?_)
              · go_grown
              · first | omega | (simp; done) | (simp; omega)
            have o21_w : ObjAt w21 (w1.heap.size) 23 [.int .i64 T, .int .i64 (b : Int)] := ObjAt.below (ObjAt.drew (ObjAt.alloc (O_w.out) _)) hb21
            have o21_x : ObjAt w21 (wr.heap.size) 23 [.int .i64 0, .int .i64 0] := ObjAt.below (ObjAt.drew (objNew (by simp))) hb21
            clear p0 p1 g0 g1 O_w
            have q21_w_0 := o21_w.cell (i := 0) rfl
            have f21_w_0 := o21_w.free 0
            have q21_w_1 := o21_w.cell (i := 1) rfl
            have f21_w_1 := o21_w.free 1
            have l21_w := o21_w.lt
            have H21_w := hide o21_w
            clear o21_w
            have q21_x_0 := o21_x.cell (i := 0) rfl
            have f21_x_0 := o21_x.free 0
            have q21_x_1 := o21_x.cell (i := 1) rfl
            have f21_x_1 := o21_x.free 1
            have l21_x := o21_x.lt
            have H21_x := hide o21_x
            clear o21_x
            have hy21 : w.heap.size ≤ w21.heap.size := hB21.size
            clear hb21
            clear HS21 c21 d21 hs21
            obtain ⟨w22, hW22⟩ : ∃ W : World, W = (w21.setCell ⟨wr.heap.size, 0, none⟩ (.int .i64 0)).setCell ⟨wr.heap.size, 1, none⟩ (.int .i64 0) := ⟨_, rfl⟩
            have hB22 : Below w.heap.size w w22 := by rw [hW22]; go_grown
            have o22_w : ObjAt w22 (w1.heap.size) 23 [.int .i64 T, .int .i64 (b : Int)] := by rw [hW22]; exact ObjAt.other2 (H21_w.out) (by omega)
            have o22_x : ObjAt w22 (wr.heap.size) 23 [.int .i64 0, .int .i64 0] := by rw [hW22]; exact ObjAt.set2 (H21_x.out)
            have hwr : Below wr.heap.size wr w22 := by rw [hW22]; exact Below.set2 hw21 (Nat.le_refl _)
            rw [← hW22]
            clear hW22
            clear q21_w_0 f21_w_0 q21_w_1 f21_w_1 H21_w q21_x_0 f21_x_0 q21_x_1 f21_x_1 H21_x
            have q22_w_0 := o22_w.cell (i := 0) rfl
            have f22_w_0 := o22_w.free 0
            have q22_w_1 := o22_w.cell (i := 1) rfl
            have f22_w_1 := o22_w.free 1
            have l22_w := o22_w.lt
            have H22_w := hide o22_w
            clear o22_w
            have q22_x_0 := o22_x.cell (i := 0) rfl
            have f22_x_0 := o22_x.free 0
            have q22_x_1 := o22_x.cell (i := 1) rfl
            have f22_x_1 := o22_x.free 1
            have l22_x := o22_x.lt
            have H22_x := hide o22_x
            clear o22_x
            have hy22 : w.heap.size ≤ w22.heap.size := hB22.size
            have hxne : ∀ q, (Value.slice av ts.length cv).ownBlock = some q → q ≠ wr.heap.size := fun q hq => by have := (Hown.out.lt q hq).2; have := hw21.size; omega
            have hownX : w22.ownsRow w5.heap.size 3 1 (.slice av ts.length cv) ts.length (ts.map (Value.int .i64)) := own_below Hown.out hwr
            have HROW : Hid (ts.length = 0 ∨ ∃ g, av = some ⟨g, 0, none⟩ ∧ ∀ i, i < ts.length → w22.cell? ⟨g, i, none⟩ = some (.int .i64 (ts.getD i 0))) := hide (Hrow.out.imp id (fun ⟨g, h1, _, h3, h4⟩ => ⟨g, h1, fun i hi => (hwr.cell (p := ⟨g, i, none⟩) h3).trans (h4 i hi)⟩))
            have hn60 : ts.length ≤ 60 := by omega
            have HOX := hide hownX
            clear hownX Hown Hrow
            have cz := CZ.out _ hB22
            have lu : ab < w22.heap.size := by omega
            go_wp2_with fail
            go_loopw [14, 15] (fun h kk ww => ∃ j m : Nat, kk = .int .i64 (j : Int) ∧ j ≤ ts.length ∧ h = .bool ((ts.take j).any (· == x)) ∧ ww = w22.drewN m) (fun _ kk _ => 100 - (intOf kk).toNat)
            case atStart => exact ⟨0, 0, rfl, by omega, rfl, rfl⟩
            case round =>
              obtain ⟨j, m, rfl, hj, rfl, rfl⟩ := hrel
              by_cases hjl : j < ts.length
              · obtain ⟨gb, rfl, hgc⟩ := HROW.out.resolve_left (by omega)
                have cj := hgc j hjl
                have hs := any_snoc ts j hjl x
                obtain ⟨y, hy⟩ : ∃ y, y = ts.getD j 0 := ⟨_, rfl⟩
                rw [← hy] at cj hs
                obtain ⟨q, hq⟩ : ∃ q, q = (ts.take j).any (· == x) := ⟨_, rfl⟩
                rw [← hq] at hs ⊢
                have HS := hide hs
                clear hs hy hq hgc
                cases q
                · go_wp2
                  go_quiet (fail)
                  go_wp2
                  go_roundw
                  case rel => exact ⟨j + 1, _, by go_num, by omega, by rw [HS.out]; simp [*], rfl⟩
                  case measure => simp [intOf] <;> omega
                · go_wp2
                  go_quiet (fail)
                  go_wp2
                  go_roundw
                  case rel => exact ⟨j + 1, _, by go_num, by omega, by rw [HS.out]; simp [*], rfl⟩
                  case measure => simp [intOf] <;> omega
              · obtain rfl : j = ts.length := by omega
                rw [List.take_length]
                obtain ⟨q, hq⟩ : ∃ q, q = ts.any (· == x) := ⟨_, rfl⟩
                rw [← hq]
                obtain ⟨w23, hW23⟩ : ∃ W : World, W = w22.drewN m := ⟨_, rfl⟩
                have hB23 : Below w.heap.size w w23 := by rw [hW23]; exact bel_drewN hB22 m
                have o23_w : ObjAt w23 (w1.heap.size) 23 [.int .i64 T, .int .i64 (b : Int)] := by rw [hW23]; exact ObjAt.drewN (H22_w.out) _
                have o23_x : ObjAt w23 (wr.heap.size) 23 [.int .i64 0, .int .i64 0] := by rw [hW23]; exact ObjAt.drewN (H22_x.out) _
                have hwr2 : Below wr.heap.size wr w23 := by rw [hW23]; exact bel_drewN hwr m
                have hown9 : w23.ownsRow w5.heap.size 3 1 (.slice av ts.length cv) ts.length (ts.map (Value.int .i64)) := by rw [hW23]; exact HOX.out
                rw [← hW23]
                clear hW23
                clear q22_w_0 f22_w_0 q22_w_1 f22_w_1 H22_w q22_x_0 f22_x_0 q22_x_1 f22_x_1 H22_x
                have q23_w_0 := o23_w.cell (i := 0) rfl
                have f23_w_0 := o23_w.free 0
                have q23_w_1 := o23_w.cell (i := 1) rfl
                have f23_w_1 := o23_w.free 1
                have l23_w := o23_w.lt
                have H23_w := hide o23_w
                clear o23_w
                have q23_x_0 := o23_x.cell (i := 0) rfl
                have f23_x_0 := o23_x.free 0
                have q23_x_1 := o23_x.cell (i := 1) rfl
                have f23_x_1 := o23_x.free 1
                have l23_x := o23_x.lt
                have H23_x := hide o23_x
                clear o23_x
                have hy23 : w.heap.size ≤ w23.heap.size := hB23.size
                have HOX := hide hown9
                have hwr2s := hwr2.size
                clear hown9 HROW hwr
                have HO9 := HOX
                have cz := CZ.out _ hB23
                have lu : ab < w23.heap.size := by omega
                rcases hcs with ⟨rfl, hn | ⟨hn, hn'⟩⟩ | ⟨rfl, hn, hn', hn''⟩ | ⟨rfl, hn, hn', hn'', hmem⟩
                have hfin : w5.heap.size ≤ w23.heap.size := by omega
                ·
                  clear hq
                  have b0 : decide (0 ≤ x) = false := decide_eq_false (by omega)
                  go_wp2_with fail
                  go_quiet (fail)
                  obtain ⟨w24, hW24⟩ : ∃ W : World, W = w23.drewN nq := ⟨_, rfl⟩
                  have hB24 : Below w.heap.size w w24 := by rw [hW24]; exact bel_drewN hB23 nq
                  have o24_w : ObjAt w24 (w1.heap.size) 23 [.int .i64 T, .int .i64 (b : Int)] := by rw [hW24]; exact ObjAt.drewN (H23_w.out) _
                  have o24_x : ObjAt w24 (wr.heap.size) 23 [.int .i64 0, .int .i64 0] := by rw [hW24]; exact ObjAt.drewN (H23_x.out) _
                  have hfz : w5.heap.size ≤ w24.heap.size := by rw [hW24]; exact (show w5.heap.size ≤ w23.heap.size from by omega)
                  have hoz : w24.ownsRow w5.heap.size 3 1 (.slice av ts.length cv) ts.length (ts.map (Value.int .i64)) := by rw [hW24]; exact HO9.out
                  rw [← hW24]
                  clear hW24
                  clear q23_w_0 f23_w_0 q23_w_1 f23_w_1 H23_w q23_x_0 f23_x_0 q23_x_1 f23_x_1 H23_x
                  have q24_w_0 := o24_w.cell (i := 0) rfl
                  have f24_w_0 := o24_w.free 0
                  have q24_w_1 := o24_w.cell (i := 1) rfl
                  have f24_w_1 := o24_w.free 1
                  have l24_w := o24_w.lt
                  have H24_w := hide o24_w
                  clear o24_w
                  have q24_x_0 := o24_x.cell (i := 0) rfl
                  have f24_x_0 := o24_x.free 0
                  have q24_x_1 := o24_x.cell (i := 1) rfl
                  have f24_x_1 := o24_x.free 1
                  have l24_x := o24_x.lt
                  have H24_x := hide o24_x
                  clear o24_x
                  have hy24 : w.heap.size ≤ w24.heap.size := hB24.size
                  have HOZ := hide hoz
                  clear hoz
                  go_wp2
                  go_roundw
                  case rel => exact ⟨k + 1, T, b, ts, by go_num, by omega, by omega, hJ, by omega, HOZ.out, H24_w.out, by omega, by go_grown⟩
                  case measure => simp [intOf] <;> omega
                ·
                  clear hq
                  have b0 : decide (0 ≤ x) = true := decide_eq_true (by omega)
                  have b1 : decide (x ≤ 100000) = false := decide_eq_false (by omega)
                  go_wp2_with fail
                  go_quiet (fail)
                  obtain ⟨w24, hW24⟩ : ∃ W : World, W = w23.drewN nq := ⟨_, rfl⟩
                  have hB24 : Below w.heap.size w w24 := by rw [hW24]; exact bel_drewN hB23 nq
                  have o24_w : ObjAt w24 (w1.heap.size) 23 [.int .i64 T, .int .i64 (b : Int)] := by rw [hW24]; exact ObjAt.drewN (H23_w.out) _
                  have o24_x : ObjAt w24 (wr.heap.size) 23 [.int .i64 0, .int .i64 0] := by rw [hW24]; exact ObjAt.drewN (H23_x.out) _
                  have hfz : w5.heap.size ≤ w24.heap.size := by rw [hW24]; exact (show w5.heap.size ≤ w23.heap.size from by omega)
                  have hoz : w24.ownsRow w5.heap.size 3 1 (.slice av ts.length cv) ts.length (ts.map (Value.int .i64)) := by rw [hW24]; exact HO9.out
                  rw [← hW24]
                  clear hW24
                  clear q23_w_0 f23_w_0 q23_w_1 f23_w_1 H23_w q23_x_0 f23_x_0 q23_x_1 f23_x_1 H23_x
                  have q24_w_0 := o24_w.cell (i := 0) rfl
                  have f24_w_0 := o24_w.free 0
                  have q24_w_1 := o24_w.cell (i := 1) rfl
                  have f24_w_1 := o24_w.free 1
                  have l24_w := o24_w.lt
                  have H24_w := hide o24_w
                  clear o24_w
                  have q24_x_0 := o24_x.cell (i := 0) rfl
                  have f24_x_0 := o24_x.free 0
                  have q24_x_1 := o24_x.cell (i := 1) rfl
                  have f24_x_1 := o24_x.free 1
                  have l24_x := o24_x.lt
                  have H24_x := hide o24_x
                  clear o24_x
                  have hy24 : w.heap.size ≤ w24.heap.size := hB24.size
                  have HOZ := hide hoz
                  clear hoz
                  go_wp2
                  go_roundw
                  case rel => exact ⟨k + 1, T, b, ts, by go_num, by omega, by omega, hJ, by omega, HOZ.out, H24_w.out, by omega, by go_grown⟩
                  case measure => simp [intOf] <;> omega
                ·
                  clear hq
                  have b0 : decide (0 ≤ x) = true := decide_eq_true (by omega)
                  have b1 : decide (x ≤ 100000) = true := decide_eq_true (by omega)
                  have b2 : decide (T - 32 < x) = false := decide_eq_false (by omega)
                  go_wp2_with fail
                  go_quiet (fail)
                  obtain ⟨w24, hW24⟩ : ∃ W : World, W = w23.drewN nq := ⟨_, rfl⟩
                  have hB24 : Below w.heap.size w w24 := by rw [hW24]; exact bel_drewN hB23 nq
                  have o24_w : ObjAt w24 (w1.heap.size) 23 [.int .i64 T, .int .i64 (b : Int)] := by rw [hW24]; exact ObjAt.drewN (H23_w.out) _
                  have o24_x : ObjAt w24 (wr.heap.size) 23 [.int .i64 0, .int .i64 0] := by rw [hW24]; exact ObjAt.drewN (H23_x.out) _
                  have hfz : w5.heap.size ≤ w24.heap.size := by rw [hW24]; exact (show w5.heap.size ≤ w23.heap.size from by omega)
                  have hoz : w24.ownsRow w5.heap.size 3 1 (.slice av ts.length cv) ts.length (ts.map (Value.int .i64)) := by rw [hW24]; exact HO9.out
                  rw [← hW24]
                  clear hW24
                  clear q23_w_0 f23_w_0 q23_w_1 f23_w_1 H23_w q23_x_0 f23_x_0 q23_x_1 f23_x_1 H23_x
                  have q24_w_0 := o24_w.cell (i := 0) rfl
                  have f24_w_0 := o24_w.free 0
                  have q24_w_1 := o24_w.cell (i := 1) rfl
                  have f24_w_1 := o24_w.free 1
                  have l24_w := o24_w.lt
                  have H24_w := hide o24_w
                  clear o24_w
                  have q24_x_0 := o24_x.cell (i := 0) rfl
                  have f24_x_0 := o24_x.free 0
                  have q24_x_1 := o24_x.cell (i := 1) rfl
                  have f24_x_1 := o24_x.free 1
                  have l24_x := o24_x.lt
                  have H24_x := hide o24_x
                  clear o24_x
                  have hy24 : w.heap.size ≤ w24.heap.size := hB24.size
                  have HOZ := hide hoz
                  clear hoz
                  go_wp2
                  go_roundw
                  case rel => exact ⟨k + 1, T, b, ts, by go_num, by omega, by omega, hJ, by omega, HOZ.out, H24_w.out, by omega, by go_grown⟩
                  case measure => simp [intOf] <;> omega
                ·
                  have hqt : q = true := by rw [hq]; simpa using hmem
                  subst hqt
                  clear hmem
                  clear hq
                  have b0 : decide (0 ≤ x) = true := decide_eq_true (by omega)
                  have b1 : decide (x ≤ 100000) = true := decide_eq_true (by omega)
                  have b2 : decide (T - 32 < x) = true := decide_eq_true (by omega)
                  go_wp2_with fail
                  go_quiet (fail)
                  obtain ⟨w24, hW24⟩ : ∃ W : World, W = w23.drewN nq := ⟨_, rfl⟩
                  have hB24 : Below w.heap.size w w24 := by rw [hW24]; exact bel_drewN hB23 nq
                  have o24_w : ObjAt w24 (w1.heap.size) 23 [.int .i64 T, .int .i64 (b : Int)] := by rw [hW24]; exact ObjAt.drewN (H23_w.out) _
                  have o24_x : ObjAt w24 (wr.heap.size) 23 [.int .i64 0, .int .i64 0] := by rw [hW24]; exact ObjAt.drewN (H23_x.out) _
                  have hfz : w5.heap.size ≤ w24.heap.size := by rw [hW24]; exact (show w5.heap.size ≤ w23.heap.size from by omega)
                  have hoz : w24.ownsRow w5.heap.size 3 1 (.slice av ts.length cv) ts.length (ts.map (Value.int .i64)) := by rw [hW24]; exact HO9.out
                  rw [← hW24]
                  clear hW24
                  clear q23_w_0 f23_w_0 q23_w_1 f23_w_1 H23_w q23_x_0 f23_x_0 q23_x_1 f23_x_1 H23_x
                  have q24_w_0 := o24_w.cell (i := 0) rfl
                  have f24_w_0 := o24_w.free 0
                  have q24_w_1 := o24_w.cell (i := 1) rfl
                  have f24_w_1 := o24_w.free 1
                  have l24_w := o24_w.lt
                  have H24_w := hide o24_w
                  clear o24_w
                  have q24_x_0 := o24_x.cell (i := 0) rfl
                  have f24_x_0 := o24_x.free 0
                  have q24_x_1 := o24_x.cell (i := 1) rfl
                  have f24_x_1 := o24_x.free 1
                  have l24_x := o24_x.lt
                  have H24_x := hide o24_x
                  clear o24_x
                  have hy24 : w.heap.size ≤ w24.heap.size := hB24.size
                  have HO11 := hide hoz
                  clear hoz
                  go_wp2_with fail
                  refine (error_any 7 7 _ (hE.below (B := w.heap.size) (by go_grown) hE.pos)).mono ?_
                  rintro e w25 ⟨rfl, hb25⟩
                  have hB25 : Below w.heap.size w w25 := by
                    refine Below.trans ?_ (Below.mono hb25 ?_)
                    · go_grown
                    · first | omega | (simp; done) | (simp; omega)
                  have o25_w : ObjAt w25 (w1.heap.size) 23 [.int .i64 T, .int .i64 (b : Int)] := ObjAt.below (H24_w.out) hb25
                  have o25_x : ObjAt w25 (wr.heap.size) 23 [.int .i64 0, .int .i64 0] := ObjAt.below (H24_x.out) hb25
                  clear q24_w_0 f24_w_0 q24_w_1 f24_w_1 H24_w q24_x_0 f24_x_0 q24_x_1 f24_x_1 H24_x
                  have q25_w_0 := o25_w.cell (i := 0) rfl
                  have f25_w_0 := o25_w.free 0
                  have q25_w_1 := o25_w.cell (i := 1) rfl
                  have f25_w_1 := o25_w.free 1
                  have l25_w := o25_w.lt
                  have H25_w := hide o25_w
                  clear o25_w
                  have q25_x_0 := o25_x.cell (i := 0) rfl
                  have f25_x_0 := o25_x.free 0
                  have q25_x_1 := o25_x.cell (i := 1) rfl
                  have f25_x_1 := o25_x.free 1
                  have l25_x := o25_x.lt
                  have H25_x := hide o25_x
                  clear o25_x
                  have hy25 : w.heap.size ≤ w25.heap.size := hB25.size
                  have hfz2 : w5.heap.size ≤ w25.heap.size := Nat.le_trans hfz hb25.size
                  have hoz : w25.ownsRow w5.heap.size 3 1 (.slice av ts.length cv) ts.length (ts.map (Value.int .i64)) := own_below HO11.out hb25
                  clear hb25
                  have HOZ := hide hoz
                  clear hoz
                  go_wp2
                  go_roundw
                  case rel => exact ⟨k + 1, T, b, ts, by go_num, by omega, by omega, hJ, by omega, HOZ.out, H25_w.out, by omega, by go_grown⟩
                  case measure => simp [intOf] <;> omega
      · have h2' : 60 ≤ k := by omega
        have CK : Hid (∀ W, Calls Tryd.prog 17 #[.agg #[.int .i64 T, .int .i64 (b : Int)]] W fun e w' => e = .returned .nilIface ∧ Below W.heap.size W w') := windowCheck (c := 0) hJ.out.1
        go_wp2_with fail
        refine (CK.out _).mono ?_
        rintro e w21 ⟨rfl, hb21⟩
        have hB21 : Below w.heap.size w w21 := by
          refine Below.trans ?_ (Below.mono hb21 ?_)
          · go_grown
          · first | omega | (simp; done) | (simp; omega)
        have o21_w : ObjAt w21 (w1.heap.size) 23 [.int .i64 T, .int .i64 (b : Int)] := ObjAt.below (O_w.out) hb21
        clear p0 p1 g0 g1 O_w
        have q21_w_0 := o21_w.cell (i := 0) rfl
        have f21_w_0 := o21_w.free 0
        have q21_w_1 := o21_w.cell (i := 1) rfl
        have f21_w_1 := o21_w.free 1
        have l21_w := o21_w.lt
        have H21_w := hide o21_w
        clear o21_w
        have hy21 : w.heap.size ≤ w21.heap.size := hB21.size
        clear hb21
        go_wp2
        go_ret
        exact ⟨rfl, by go_grown⟩
    · have h1' : len ≤ k := by omega
      have CK : Hid (∀ W, Calls Tryd.prog 17 #[.agg #[.int .i64 T, .int .i64 (b : Int)]] W fun e w' => e = .returned .nilIface ∧ Below W.heap.size W w') := windowCheck (c := 0) hJ.out.1
      go_wp2_with fail
      refine (CK.out _).mono ?_
      rintro e w21 ⟨rfl, hb21⟩
      have hB21 : Below w.heap.size w w21 := by
        refine Below.trans ?_ (Below.mono hb21 ?_)
        · go_grown
        · first | omega | (simp; done) | (simp; omega)
      have o21_w : ObjAt w21 (w1.heap.size) 23 [.int .i64 T, .int .i64 (b : Int)] := ObjAt.below (O_w.out) hb21
      clear p0 p1 g0 g1 O_w
      have q21_w_0 := o21_w.cell (i := 0) rfl
      have f21_w_0 := o21_w.free 0
      have q21_w_1 := o21_w.cell (i := 1) rfl
      have f21_w_1 := o21_w.free 1
      have l21_w := o21_w.lt
      have H21_w := hide o21_w
      clear o21_w
      have hy21 : w.heap.size ≤ w21.heap.size := hB21.size
      clear hb21
      go_wp2
      go_ret
      exact ⟨rfl, by go_grown⟩
end Go.Proofs.YtelegodagepeeaaDoor
