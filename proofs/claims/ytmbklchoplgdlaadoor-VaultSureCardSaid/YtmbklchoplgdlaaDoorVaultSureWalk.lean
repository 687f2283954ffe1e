/- The walk of VaultSure. -/
import Derived.Test.YtmbklchoplgdlaaDoorVault
import Derived.Test.YtmbklchoplgdlaaDoorErr
namespace Go.Proofs.YtmbklchoplgdlaaDoor
open Go.RowKit

theorem vs_one {n u now : Int} (h : now ≤ u) : spDrop [(n, u)] now = [(n, u)] := by simp [spDrop, h]
theorem vs_two {n m u now : Int} (h : now ≤ u) : spDrop [(n, u), (m, u)] now = [(n, u), (m, u)] := by simp [spDrop, h]
theorem vs_again {zs : List (Int × Int)} {n u : Int} (hn : inB n = true) (hu : tmB u = true) (hd : spDrop zs u = zs) (ha : zs.any (fun x => x.1 == n) = true) : spMoreE zs n u u = 7 := by
  unfold spMoreE
  rw [if_neg (by simp [hn, hu]), if_neg (by omega), hd, if_pos ha]
theorem vsS_same {n u now : Int} (hn : inB n = true) (hu : tmB u = true) (hw : tmB now = true) (hle : now ≤ u) : spMoreE [(n, u)] n u now = 7 := by
  unfold spMoreE
  rw [if_neg (by simp [hn, hu, hw]), vs_one hle, if_neg (by omega), if_pos (by simp)]
theorem vsS_bad {n m u now : Int} (hm : inB m = false) : spMoreE [(n, u)] m u now = 1 := by
  unfold spMoreE
  rw [if_pos (by simp [hm])]
theorem vsS_ok {n m u now : Int} (hm : inB m = true) (hu : tmB u = true) (hw : tmB now = true) (hle : now ≤ u) (hne : m ≠ n) : spMoreE [(n, u)] m u now = 0 := by
  unfold spMoreE
  rw [if_neg (by simp [hm, hu, hw]), vs_one hle, if_neg (by omega), if_neg (by simp [Ne.symm hne]), if_neg (by simp)]
theorem vS_same {n u now : Int} (hn : inB n = true) (hu : tmB u = true) (hw : tmB now = true) (hle : now ≤ u) (b : Nat) (W : World) (h : VAt W b [(n, u)] [(n, u)]) : Calls Tryd.prog 20 #[.pointer (some ⟨b, 0, none⟩), .int .i64 n, .int .i64 u, .int .i64 now] W fun e w' => e = .returned (.iface 82 (.int .i64 7)) ∧ VAt w' b [(n, u)] [(n, u)] ∧ Kept [b] W w' :=
  vltSpend_bad (c := 7) (vsS_same hn hu hw hle) (by decide) b W h
theorem vS_bad {n m u now : Int} (hm : inB m = false) (b : Nat) (W : World) (h : VAt W b [(n, u)] [(n, u)]) : Calls Tryd.prog 20 #[.pointer (some ⟨b, 0, none⟩), .int .i64 m, .int .i64 u, .int .i64 now] W fun e w' => e = .returned (.iface 82 (.int .i64 1)) ∧ VAt w' b [(n, u)] [(n, u)] ∧ Kept [b] W w' :=
  vltSpend_bad (c := 1) (vsS_bad hm) (by decide) b W h
theorem vS_ok {n m u now : Int} (hm : inB m = true) (hu : tmB u = true) (hw : tmB now = true) (hle : now ≤ u) (hne : m ≠ n) (b : Nat) (W : World) (h : VAt W b [(n, u)] [(n, u)]) : Calls Tryd.prog 20 #[.pointer (some ⟨b, 0, none⟩), .int .i64 m, .int .i64 u, .int .i64 now] W fun e w' => e = .returned (.nilIface) ∧ VAt w' b [(n, u), (m, u)] [(n, u)] ∧ Kept [b] W w' := by
  have q := vltSpend_ok (vsS_ok (n := n) hm hu hw hle hne) (by simp) b W h
  rw [vs_one hle] at q
  simp only [List.cons_append, List.nil_append] at q
  exact q
theorem vR3 {zs : List (Int × Int)} {n u : Int} (hn : inB n = true) (hu : tmB u = true) (hd : spDrop zs u = zs) (ha : zs.any (fun x => x.1 == n) = true) (b : Nat) (W : World) (h : VAt W b zs [(n, u)]) : Calls Tryd.prog 20 #[.pointer (some ⟨b, 0, none⟩), .int .i64 n, .int .i64 u, .int .i64 u] W fun e w' => e = .returned (.iface 82 (.int .i64 7)) ∧ VAt w' b zs [(n, u)] ∧ Kept [b] W w' :=
  vltSpend_bad (c := 7) (vs_again hn hu hd ha) (by decide) b W h
theorem vR1 {zs : List (Int × Int)} {n u : Int} (hn : inB n = true) (b : Nat) (W : World) (h : VAt W b zs [(n, u)]) : Calls Tryd.prog 24 #[.pointer (some ⟨b, 0, none⟩), .int .i64 n] W fun e w' => e = .returned (.tuple #[.bool true, .nilIface]) ∧ Below W.heap.size W w' :=
  vltSure (c := 0) (by unfold vltN; rw [if_pos hn]; simp) b W h
theorem vR2 {zs ks : List (Int × Int)} {n : Int} {q : Bool} (hn : inB n = true) (ha : zs.any (fun x => x.1 == n) = q) (b : Nat) (W : World) (h : VAt W b zs ks) : Calls Tryd.prog 22 #[.pointer (some ⟨b, 0, none⟩), .int .i64 n] W fun e w' => e = .returned (.tuple #[.bool q, .nilIface]) ∧ Below W.heap.size W w' :=
  vltHas (c := 0) (by unfold vltN; rw [if_pos hn, ha]) b W h
theorem vR4 {zs ks : List (Int × Int)} {n : Int} (hn : inB n = false) (b : Nat) (W : World) (h : VAt W b zs ks) : Calls Tryd.prog 22 #[.pointer (some ⟨b, 0, none⟩), .int .i64 n] W fun e w' => e = .returned (.tuple #[.bool false, .iface 82 (.int .i64 1)]) ∧ Below W.heap.size W w' :=
  vltHas (c := 1) (by unfold vltN; rw [if_neg (by simp [hn])]) b W h
theorem va1 (n u : Int) : [(n, u)].any (fun x => x.1 == n) = true := by simp
theorem va2 (n m u : Int) : [(n, u), (m, u)].any (fun x => x.1 == n) = true := by simp
theorem va3 (n m u : Int) : [(n, u), (m, u)].any (fun x => x.1 == m) = true := by simp
theorem va4 {n m u : Int} (h : m ≠ n) : [(n, u)].any (fun x => x.1 == m) = false := by simp [Ne.symm h]
set_option maxRecDepth 100000 in
set_option maxHeartbeats 8000000 in
theorem walkVaultSure (w : World) (n : Int) (_w0 : (Lit.int .i64 n).wf = true) (u : Int) (_w1 : (Lit.int .i64 u).wf = true) (now : Int) (_w2 : (Lit.int .i64 now).wf = true) (m : Int) (_w3 : (Lit.int .i64 m).wf = true) (crash : Bool) (hE : ErrT w) :
    Calls Tryd.prog 4 #[.int .i64 n, .int .i64 u, .int .i64 now, .int .i64 m, .bool crash] w fun e w' => e = .returned (.bool true) ∧ Below w.heap.size w w' := by
  clear _w0 _w1 _w2 _w3
  have e1 : spMoreE [] 5 10 1 = 0 := by decide
  have e2 : spMoreE [(5, 10)] 5 10 2 = 7 := by decide
  go_enter Tryd.func4, Tryd.ntmps4
  go_wp2_with fail
  refine (vltNew _).mono ?_
  rintro e w1 ⟨rfl, hV1, hb1⟩
  have hB1 : Below w.heap.size w w1 := hb1
  have hbb : w.heap.size ≤ w.heap.size := Nat.le_refl _
  have HV1 := hide hV1
  clear hV1 hb1
  go_wp2_with fail
  refine (vltSpend_ok e1 (by simp) _ _ HV1.out).mono ?_
  rintro e w2 ⟨rfl, hV2, hk2⟩
  have hB2 : Below w.heap.size w w2 := hB1.trans (hk2.below hB1.size (fun x hx => by simp at hx; omega))
  have HV2 := hide hV2
  clear hV2 hk2
  go_wp2_with fail
  refine (vltCrash _ _ HV2.out).mono ?_
  rintro e w3 ⟨rfl, hV3, hk3⟩
  have hB3 : Below w.heap.size w w3 := hB2.trans (hk3.below hB2.size (fun x hx => by simp at hx; omega))
  have HV3 := hide hV3
  clear hV3 hk3
  have Q0 : Hid (∀ b W, VAt W b [] [] → Calls Tryd.prog 22 #[.pointer (some ⟨b, 0, none⟩), .int .i64 5] W fun e w' => e = .returned (.tuple #[.bool false, .nilIface]) ∧ Below W.heap.size W w') := vltHas (c := 0) (by decide)
  go_wp2_with fail
  refine (Q0.out _ _ HV3.out).mono ?_
  rintro e w4 ⟨rfl, hb4⟩
  have hB4 : Below w.heap.size w w4 := hB3.trans (hb4.mono hB3.size)
  have HV4 := hide (HV3.out.below hb4)
  clear hb4
  go_wp2_with fail
  refine (vltSpend_ok e1 (by simp) _ _ HV4.out).mono ?_
  rintro e w5 ⟨rfl, hV5, hk5⟩
  have hB5 : Below w.heap.size w w5 := hB4.trans (hk5.below hB4.size (fun x hx => by simp at hx; omega))
  have HV5 := hide hV5
  clear hV5 hk5
  go_wp2_with fail
  refine (vltSync _ _ HV5.out).mono ?_
  rintro e w6 ⟨rfl, hV6, hk6⟩
  have hB6 : Below w.heap.size w w6 := hB5.trans (hk6.below hB5.size (fun x hx => by simp at hx; omega))
  have HV6 := hide hV6
  clear hV6 hk6
  go_wp2_with fail
  refine (vltCrash _ _ HV6.out).mono ?_
  rintro e w7 ⟨rfl, hV7, hk7⟩
  have hB7 : Below w.heap.size w w7 := hB6.trans (hk7.below hB6.size (fun x hx => by simp at hx; omega))
  have HV7 := hide hV7
  clear hV7 hk7
  have Q1 : Hid (∀ b W, VAt W b [(5, 10)] [(5, 10)] → Calls Tryd.prog 20 #[.pointer (some ⟨b, 0, none⟩), .int .i64 5, .int .i64 10, .int .i64 2] W fun e w' => e = .returned (.iface 82 (.int .i64 7)) ∧ VAt w' b [(5, 10)] [(5, 10)] ∧ Kept [b] W w') := vltSpend_bad (c := 7) e2 (by decide)
  go_wp2_with fail
  refine (Q1.out _ _ HV7.out).mono ?_
  rintro e w8 ⟨rfl, hV8, hk8⟩
  have hB8 : Below w.heap.size w w8 := hB7.trans (hk8.below hB7.size (fun x hx => by simp at hx; omega))
  have HV8 := hide hV8
  clear hV8 hk8
  go_wp2_with fail
  refine (error_any 7 7 _ (hE.below (B := w.heap.size) (by assumption) hE.pos)).mono ?_
  rintro e w9 ⟨rfl, hb9⟩
  have hB9 : Below w.heap.size w w9 := hB8.trans (hb9.mono hB8.size)
  have HV9 := hide (HV8.out.below hb9)
  clear hb9
  clear e1 e2 Q0 Q1
  go_wp2_with fail
  refine (vltNew _).mono ?_
  rintro e w10 ⟨rfl, hV10, hb10⟩
  have hB10 : Below w.heap.size w w10 := hB9.trans (hb10.mono hB9.size)
  have hbb : w.heap.size ≤ w9.heap.size := hB9.size
  have HV10 := hide hV10
  clear hV10 hb10
  rcases spMore_cases [] n u now with ⟨hm, hn, hu, hw, hle, _, _⟩ | hm
  ·
    go_wp2_with fail
    refine (vltSpend_ok hm (by simp) _ _ HV10.out).mono ?_
    rintro e w11 ⟨rfl, hV11, hk11⟩
    have hB11 : Below w.heap.size w w11 := hB10.trans (hk11.below hB10.size (fun x hx => by simp at hx; omega))
    have HV11 := hide hV11
    clear hV11 hk11
    go_wp2_with fail
    refine (vltSync (zs := [(n, u)]) _ _ HV11.out).mono ?_
    rintro e w12 ⟨rfl, hV12, hk12⟩
    have hB12 : Below w.heap.size w w12 := hB11.trans (hk12.below hB11.size (fun x hx => by simp at hx; omega))
    have HV12 := hide hV12
    clear hV12 hk12
    obtain ⟨n0, n1⟩ := inB_true.1 hn
    clear hm
    by_cases hmn : m = n
    ·
      subst hmn
      go_wp2_with fail
      refine (vS_same hn hu hw hle _ _ HV12.out).mono ?_
      rintro e w13 ⟨rfl, hV13, hk13⟩
      have hB13 : Below w.heap.size w w13 := hB12.trans (hk13.below hB12.size (fun x hx => by simp at hx; omega))
      have HV13 := hide hV13
      clear hV13 hk13
      cases crash
      ·
        go_wp2_with fail
        refine (vR1 hn _ _ HV13.out).mono ?_
        rintro e w14 ⟨rfl, hb14⟩
        have hB14 : Below w.heap.size w w14 := hB13.trans (hb14.mono hB13.size)
        have HV14 := hide (HV13.out.below hb14)
        clear hb14
        go_wp2_with fail
        refine (vR2 hn (va1 _ u) _ _ HV14.out).mono ?_
        rintro e w15 ⟨rfl, hb15⟩
        have hB15 : Below w.heap.size w w15 := hB14.trans (hb15.mono hB14.size)
        have HV15 := hide (HV14.out.below hb15)
        clear hb15
        go_wp2_with fail
        refine (vR3 hn hu (vs_one (Int.le_refl u)) (va1 _ u) _ _ HV15.out).mono ?_
        rintro e w16 ⟨rfl, hV16, hk16⟩
        have hB16 : Below w.heap.size w w16 := hB15.trans (hk16.below hB15.size (fun x hx => by simp at hx; omega))
        have HV16 := hide hV16
        clear hV16 hk16
        go_wp2_with fail
        refine (error_any 7 7 _ (hE.below (B := w.heap.size) (by assumption) hE.pos)).mono ?_
        rintro e w17 ⟨rfl, hb17⟩
        have hB17 : Below w.heap.size w w17 := hB16.trans (hb17.mono hB16.size)
        have HV17 := hide (HV16.out.below hb17)
        clear hb17
        go_wp2_with fail
        refine (vR2 hn (va1 _ u) _ _ HV17.out).mono ?_
        rintro e w18 ⟨rfl, hb18⟩
        have hB18 : Below w.heap.size w w18 := hB17.trans (hb18.mono hB17.size)
        have HV18 := hide (HV17.out.below hb18)
        clear hb18
        go_wp2
        go_ret
        exact ⟨rfl, by assumption⟩
      ·
        go_wp2_with fail
        refine (vltCrash _ _ HV13.out).mono ?_
        rintro e w14 ⟨rfl, hV14, hk14⟩
        have hB14 : Below w.heap.size w w14 := hB13.trans (hk14.below hB13.size (fun x hx => by simp at hx; omega))
        have HV14 := hide hV14
        clear hV14 hk14
        go_wp2_with fail
        refine (vR1 hn _ _ HV14.out).mono ?_
        rintro e w15 ⟨rfl, hb15⟩
        have hB15 : Below w.heap.size w w15 := hB14.trans (hb15.mono hB14.size)
        have HV15 := hide (HV14.out.below hb15)
        clear hb15
        go_wp2_with fail
        refine (vR2 hn (va1 _ u) _ _ HV15.out).mono ?_
        rintro e w16 ⟨rfl, hb16⟩
        have hB16 : Below w.heap.size w w16 := hB15.trans (hb16.mono hB15.size)
        have HV16 := hide (HV15.out.below hb16)
        clear hb16
        go_wp2_with fail
        refine (vR3 hn hu (vs_one (Int.le_refl u)) (va1 _ u) _ _ HV16.out).mono ?_
        rintro e w17 ⟨rfl, hV17, hk17⟩
        have hB17 : Below w.heap.size w w17 := hB16.trans (hk17.below hB16.size (fun x hx => by simp at hx; omega))
        have HV17 := hide hV17
        clear hV17 hk17
        go_wp2_with fail
        refine (error_any 7 7 _ (hE.below (B := w.heap.size) (by assumption) hE.pos)).mono ?_
        rintro e w18 ⟨rfl, hb18⟩
        have hB18 : Below w.heap.size w w18 := hB17.trans (hb18.mono hB17.size)
        have HV18 := hide (HV17.out.below hb18)
        clear hb18
        go_wp2_with fail
        refine (vR2 hn (va1 _ u) _ _ HV18.out).mono ?_
        rintro e w19 ⟨rfl, hb19⟩
        have hB19 : Below w.heap.size w w19 := hB18.trans (hb19.mono hB18.size)
        have HV19 := hide (HV18.out.below hb19)
        clear hb19
        go_wp2
        go_ret
        exact ⟨rfl, by assumption⟩
    ·
      have tmn : (m == n) = false := beq_eq_false_iff_ne.2 hmn
      have tmn2 : (m != n) = true := bne_iff_ne.2 hmn
      cases hmi : inB m
      ·
        have hmr := inB_false.1 hmi
        go_wp2_with fail
        refine (vS_bad hmi _ _ HV12.out).mono ?_
        rintro e w13 ⟨rfl, hV13, hk13⟩
        have hB13 : Below w.heap.size w w13 := hB12.trans (hk13.below hB12.size (fun x hx => by simp at hx; omega))
        have HV13 := hide hV13
        clear hV13 hk13
        by_cases m0 : m < 0
        ·
          clear hmr
          cases crash
          ·
            go_wp2_with fail
            refine (vR1 hn _ _ HV13.out).mono ?_
            rintro e w14 ⟨rfl, hb14⟩
            have hB14 : Below w.heap.size w w14 := hB13.trans (hb14.mono hB13.size)
            have HV14 := hide (HV13.out.below hb14)
            clear hb14
            go_wp2_with fail
            refine (vR2 hn (va1 _ u) _ _ HV14.out).mono ?_
            rintro e w15 ⟨rfl, hb15⟩
            have hB15 : Below w.heap.size w w15 := hB14.trans (hb15.mono hB14.size)
            have HV15 := hide (HV14.out.below hb15)
            clear hb15
            go_wp2_with fail
            refine (vR3 hn hu (vs_one (Int.le_refl u)) (va1 _ u) _ _ HV15.out).mono ?_
            rintro e w16 ⟨rfl, hV16, hk16⟩
            have hB16 : Below w.heap.size w w16 := hB15.trans (hk16.below hB15.size (fun x hx => by simp at hx; omega))
            have HV16 := hide hV16
            clear hV16 hk16
            go_wp2_with fail
            refine (error_any 7 7 _ (hE.below (B := w.heap.size) (by assumption) hE.pos)).mono ?_
            rintro e w17 ⟨rfl, hb17⟩
            have hB17 : Below w.heap.size w w17 := hB16.trans (hb17.mono hB16.size)
            have HV17 := hide (HV16.out.below hb17)
            clear hb17
            go_wp2_with fail
            refine (vR4 hmi _ _ HV17.out).mono ?_
            rintro e w18 ⟨rfl, hb18⟩
            have hB18 : Below w.heap.size w w18 := hB17.trans (hb18.mono hB17.size)
            have HV18 := hide (HV17.out.below hb18)
            clear hb18
            go_wp2
            go_ret
            exact ⟨rfl, by assumption⟩
          ·
            go_wp2_with fail
            refine (vltCrash _ _ HV13.out).mono ?_
            rintro e w14 ⟨rfl, hV14, hk14⟩
            have hB14 : Below w.heap.size w w14 := hB13.trans (hk14.below hB13.size (fun x hx => by simp at hx; omega))
            have HV14 := hide hV14
            clear hV14 hk14
            go_wp2_with fail
            refine (vR1 hn _ _ HV14.out).mono ?_
            rintro e w15 ⟨rfl, hb15⟩
            have hB15 : Below w.heap.size w w15 := hB14.trans (hb15.mono hB14.size)
            have HV15 := hide (HV14.out.below hb15)
            clear hb15
            go_wp2_with fail
            refine (vR2 hn (va1 _ u) _ _ HV15.out).mono ?_
            rintro e w16 ⟨rfl, hb16⟩
            have hB16 : Below w.heap.size w w16 := hB15.trans (hb16.mono hB15.size)
            have HV16 := hide (HV15.out.below hb16)
            clear hb16
            go_wp2_with fail
            refine (vR3 hn hu (vs_one (Int.le_refl u)) (va1 _ u) _ _ HV16.out).mono ?_
            rintro e w17 ⟨rfl, hV17, hk17⟩
            have hB17 : Below w.heap.size w w17 := hB16.trans (hk17.below hB16.size (fun x hx => by simp at hx; omega))
            have HV17 := hide hV17
            clear hV17 hk17
            go_wp2_with fail
            refine (error_any 7 7 _ (hE.below (B := w.heap.size) (by assumption) hE.pos)).mono ?_
            rintro e w18 ⟨rfl, hb18⟩
            have hB18 : Below w.heap.size w w18 := hB17.trans (hb18.mono hB17.size)
            have HV18 := hide (HV17.out.below hb18)
            clear hb18
            go_wp2_with fail
            refine (vR4 hmi _ _ HV18.out).mono ?_
            rintro e w19 ⟨rfl, hb19⟩
            have hB19 : Below w.heap.size w w19 := hB18.trans (hb19.mono hB18.size)
            have HV19 := hide (HV18.out.below hb19)
            clear hb19
            go_wp2
            go_ret
            exact ⟨rfl, by assumption⟩
        ·
          have m1 : 0 ≤ m := by omega
          have m2 : 999982 < m := by omega
          clear m0 hmr
          cases crash
          ·
            go_wp2_with fail
            refine (vR1 hn _ _ HV13.out).mono ?_
            rintro e w14 ⟨rfl, hb14⟩
            have hB14 : Below w.heap.size w w14 := hB13.trans (hb14.mono hB13.size)
            have HV14 := hide (HV13.out.below hb14)
            clear hb14
            go_wp2_with fail
            refine (vR2 hn (va1 _ u) _ _ HV14.out).mono ?_
            rintro e w15 ⟨rfl, hb15⟩
            have hB15 : Below w.heap.size w w15 := hB14.trans (hb15.mono hB14.size)
            have HV15 := hide (HV14.out.below hb15)
            clear hb15
            go_wp2_with fail
            refine (vR3 hn hu (vs_one (Int.le_refl u)) (va1 _ u) _ _ HV15.out).mono ?_
            rintro e w16 ⟨rfl, hV16, hk16⟩
            have hB16 : Below w.heap.size w w16 := hB15.trans (hk16.below hB15.size (fun x hx => by simp at hx; omega))
            have HV16 := hide hV16
            clear hV16 hk16
            go_wp2_with fail
            refine (error_any 7 7 _ (hE.below (B := w.heap.size) (by assumption) hE.pos)).mono ?_
            rintro e w17 ⟨rfl, hb17⟩
            have hB17 : Below w.heap.size w w17 := hB16.trans (hb17.mono hB16.size)
            have HV17 := hide (HV16.out.below hb17)
            clear hb17
            go_wp2_with fail
            refine (vR4 hmi _ _ HV17.out).mono ?_
            rintro e w18 ⟨rfl, hb18⟩
            have hB18 : Below w.heap.size w w18 := hB17.trans (hb18.mono hB17.size)
            have HV18 := hide (HV17.out.below hb18)
            clear hb18
            go_wp2
            go_ret
            exact ⟨rfl, by assumption⟩
          ·
            go_wp2_with fail
            refine (vltCrash _ _ HV13.out).mono ?_
            rintro e w14 ⟨rfl, hV14, hk14⟩
            have hB14 : Below w.heap.size w w14 := hB13.trans (hk14.below hB13.size (fun x hx => by simp at hx; omega))
            have HV14 := hide hV14
            clear hV14 hk14
            go_wp2_with fail
            refine (vR1 hn _ _ HV14.out).mono ?_
            rintro e w15 ⟨rfl, hb15⟩
            have hB15 : Below w.heap.size w w15 := hB14.trans (hb15.mono hB14.size)
            have HV15 := hide (HV14.out.below hb15)
            clear hb15
            go_wp2_with fail
            refine (vR2 hn (va1 _ u) _ _ HV15.out).mono ?_
            rintro e w16 ⟨rfl, hb16⟩
            have hB16 : Below w.heap.size w w16 := hB15.trans (hb16.mono hB15.size)
            have HV16 := hide (HV15.out.below hb16)
            clear hb16
            go_wp2_with fail
            refine (vR3 hn hu (vs_one (Int.le_refl u)) (va1 _ u) _ _ HV16.out).mono ?_
            rintro e w17 ⟨rfl, hV17, hk17⟩
            have hB17 : Below w.heap.size w w17 := hB16.trans (hk17.below hB16.size (fun x hx => by simp at hx; omega))
            have HV17 := hide hV17
            clear hV17 hk17
            go_wp2_with fail
            refine (error_any 7 7 _ (hE.below (B := w.heap.size) (by assumption) hE.pos)).mono ?_
            rintro e w18 ⟨rfl, hb18⟩
            have hB18 : Below w.heap.size w w18 := hB17.trans (hb18.mono hB17.size)
            have HV18 := hide (HV17.out.below hb18)
            clear hb18
            go_wp2_with fail
            refine (vR4 hmi _ _ HV18.out).mono ?_
            rintro e w19 ⟨rfl, hb19⟩
            have hB19 : Below w.heap.size w w19 := hB18.trans (hb19.mono hB18.size)
            have HV19 := hide (HV18.out.below hb19)
            clear hb19
            go_wp2
            go_ret
            exact ⟨rfl, by assumption⟩
      ·
        go_wp2_with fail
        refine (vS_ok hmi hu hw hle hmn _ _ HV12.out).mono ?_
        rintro e w13 ⟨rfl, hV13, hk13⟩
        have hB13 : Below w.heap.size w w13 := hB12.trans (hk13.below hB12.size (fun x hx => by simp at hx; omega))
        have HV13 := hide hV13
        clear hV13 hk13
        cases crash
        ·
          go_wp2_with fail
          refine (vR1 hn _ _ HV13.out).mono ?_
          rintro e w14 ⟨rfl, hb14⟩
          have hB14 : Below w.heap.size w w14 := hB13.trans (hb14.mono hB13.size)
          have HV14 := hide (HV13.out.below hb14)
          clear hb14
          go_wp2_with fail
          refine (vR2 hn (va2 _ _ u) _ _ HV14.out).mono ?_
          rintro e w15 ⟨rfl, hb15⟩
          have hB15 : Below w.heap.size w w15 := hB14.trans (hb15.mono hB14.size)
          have HV15 := hide (HV14.out.below hb15)
          clear hb15
          go_wp2_with fail
          refine (vR3 hn hu (vs_two (Int.le_refl u)) (va2 _ _ u) _ _ HV15.out).mono ?_
          rintro e w16 ⟨rfl, hV16, hk16⟩
          have hB16 : Below w.heap.size w w16 := hB15.trans (hk16.below hB15.size (fun x hx => by simp at hx; omega))
          have HV16 := hide hV16
          clear hV16 hk16
          go_wp2_with fail
          refine (error_any 7 7 _ (hE.below (B := w.heap.size) (by assumption) hE.pos)).mono ?_
          rintro e w17 ⟨rfl, hb17⟩
          have hB17 : Below w.heap.size w w17 := hB16.trans (hb17.mono hB16.size)
          have HV17 := hide (HV16.out.below hb17)
          clear hb17
          go_wp2_with fail
          refine (vR2 hmi (va3 _ _ u) _ _ HV17.out).mono ?_
          rintro e w18 ⟨rfl, hb18⟩
          have hB18 : Below w.heap.size w w18 := hB17.trans (hb18.mono hB17.size)
          have HV18 := hide (HV17.out.below hb18)
          clear hb18
          go_wp2
          go_ret
          exact ⟨rfl, by assumption⟩
        ·
          go_wp2_with fail
          refine (vltCrash _ _ HV13.out).mono ?_
          rintro e w14 ⟨rfl, hV14, hk14⟩
          have hB14 : Below w.heap.size w w14 := hB13.trans (hk14.below hB13.size (fun x hx => by simp at hx; omega))
          have HV14 := hide hV14
          clear hV14 hk14
          go_wp2_with fail
          refine (vR1 hn _ _ HV14.out).mono ?_
          rintro e w15 ⟨rfl, hb15⟩
          have hB15 : Below w.heap.size w w15 := hB14.trans (hb15.mono hB14.size)
          have HV15 := hide (HV14.out.below hb15)
          clear hb15
          go_wp2_with fail
          refine (vR2 hn (va1 _ u) _ _ HV15.out).mono ?_
          rintro e w16 ⟨rfl, hb16⟩
          have hB16 : Below w.heap.size w w16 := hB15.trans (hb16.mono hB15.size)
          have HV16 := hide (HV15.out.below hb16)
          clear hb16
          go_wp2_with fail
          refine (vR3 hn hu (vs_one (Int.le_refl u)) (va1 _ u) _ _ HV16.out).mono ?_
          rintro e w17 ⟨rfl, hV17, hk17⟩
          have hB17 : Below w.heap.size w w17 := hB16.trans (hk17.below hB16.size (fun x hx => by simp at hx; omega))
          have HV17 := hide hV17
          clear hV17 hk17
          go_wp2_with fail
          refine (error_any 7 7 _ (hE.below (B := w.heap.size) (by assumption) hE.pos)).mono ?_
          rintro e w18 ⟨rfl, hb18⟩
          have hB18 : Below w.heap.size w w18 := hB17.trans (hb18.mono hB17.size)
          have HV18 := hide (HV17.out.below hb18)
          clear hb18
          go_wp2_with fail
          refine (vR2 hmi (va4 hmn) _ _ HV18.out).mono ?_
          rintro e w19 ⟨rfl, hb19⟩
          have hB19 : Below w.heap.size w w19 := hB18.trans (hb19.mono hB18.size)
          have HV19 := hide (HV18.out.below hb19)
          clear hb19
          go_wp2
          go_ret
          exact ⟨rfl, by assumption⟩
  ·
    obtain ⟨c, hc⟩ : ∃ c, spMoreE [] n u now = c := ⟨_, rfl⟩
    rw [hc] at hm
    have tc : (c != 0) = true := bne_iff_ne.2 hm
    go_wp2_with fail
    refine (vltSpend_bad hc hm _ _ HV10.out).mono ?_
    rintro e w11 ⟨rfl, hV11, hk11⟩
    have hB11 : Below w.heap.size w w11 := hB10.trans (hk11.below hB10.size (fun x hx => by simp at hx; omega))
    have HV11 := hide hV11
    clear hV11 hk11
    go_wp2
    go_ret
    exact ⟨rfl, by assumption⟩
end Go.Proofs.YtmbklchoplgdlaaDoor
