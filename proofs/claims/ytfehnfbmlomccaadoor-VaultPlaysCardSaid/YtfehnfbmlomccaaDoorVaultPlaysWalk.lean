/- The walk of VaultPlays. -/
import Derived.Test.YtfehnfbmlomccaaDoorVault
import Derived.Test.YtfehnfbmlomccaaDoorRSpend
import Derived.Test.YtfehnfbmlomccaaDoorErr
namespace Go.Proofs.YtfehnfbmlomccaaDoor
open Go.RowKit

theorem vltN_in {zs : List (Int × Int)} {n : Int} (h : inB n = true) : vltN zs n = (zs.any (fun x => x.1 == n), 0) := by unfold vltN; rw [if_pos h]
theorem vltN_out {zs : List (Int × Int)} {n : Int} (h : inB n = false) : vltN zs n = (false, 1) := by unfold vltN; rw [if_neg (by simp [h])]
theorem PSl.form {w : World} {v : Value} {zs : List (Int × Int)} (h : PSl w v zs) : ∃ a c, v = .slice a zs.length c := by
  rcases h.2 with ⟨rfl, a, c, rfl⟩ | ⟨b, off, c, rfl, _⟩
  · exact ⟨a, c, rfl⟩
  · exact ⟨_, c, rfl⟩
theorem map4 {cs : List Int} (h : cs.length = 4) : ∃ a b c d, cs = [a, b, c, d] := by
  match cs, h with
  | [a, b, c, d], _ => exact ⟨a, b, c, d, rfl⟩
theorem vp_len {zs : List (Int × Int)} {n u now : Int} (h : zs.length ≤ 16) (hc : spMoreE zs n u now = 0) : (spDrop zs now ++ [(n, u)]).length ≤ 16 := by
  obtain ⟨_, _, _, _, _, _, hne⟩ := (spMore_cases zs n u now).resolve_right (fun hx => hx hc)
  have := spDrop_le zs now
  simp; omega
theorem rSpend_okN {n u now : Int} {zs ns : List (Int × Int)} (hn : spDrop zs now ++ [(n, u)] = ns) (h16 : zs.length ≤ 16) (hc : spMoreE zs n u now = 0) (v : Value) (w : World) (hv : PSl w v zs) :
    Calls Tryd.prog 24 #[v, .int .i64 n, .int .i64 u, .int .i64 now] w fun e w' => ∃ v', e = .returned (.tuple #[v', .int .i64 0]) ∧ w'.ownsRow w.heap.size 67 2 v' ns.length (flat ns) ∧ Below w.heap.size w w' := by
  subst hn
  exact rSpend_ok h16 hc v w hv
theorem vltSpend_okN {n u now : Int} {zs ks ns : List (Int × Int)} (hn : spDrop zs now ++ [(n, u)] = ns) (hc : spMoreE zs n u now = 0) (hl : zs.length ≤ 16) (b : Nat) (w : World) (h : VAt w b zs ks) :
    Calls Tryd.prog 25 #[.pointer (some ⟨b, 0, none⟩), .int .i64 n, .int .i64 u, .int .i64 now] w fun e w' => e = .returned .nilIface ∧ VAt w' b ns ks ∧ Kept [b] w w' := by
  subst hn
  exact vltSpend_ok hc (by omega) b w h
set_option maxRecDepth 100000 in
set_option maxHeartbeats 16000000 in
theorem walkVaultPlays (w : World) (a : Option Addr) (len cap : Nat) (zz : List (List Int)) (_hl : len ≤ cap) (_hc : cap ≤ maxLen) (hr : MatRow w a len zz) (hE : ErrT w) :
    Calls Tryd.prog 6 #[.slice a len cap] w fun e w' => e = .returned (.bool true) ∧ Below w.heap.size w w' := by
  have hm : len ≤ maxLen := hr.2.1
  unfold maxLen at hm
  have HR := hide hr.split
  clear hr _hl _hc
  go_enter Tryd.func6, Tryd.ntmps6
  go_wp2_with fail
  refine (vltNew _).mono ?_
  rintro e w1 ⟨rfl, hV1, hB1⟩
  have HV1 := hide hV1
  have z1 := hV1.lt
  have hE0 := hE.pos
  clear hV1
  go_wp2_with fail
  go_loopw [4, 5, 6] (fun va vk i wr => ∃ (k : Nat) (zs ks : List (Int × Int)), i = .int .i64 k ∧ k ≤ len ∧ k ≤ 100 ∧ zs.length ≤ 16 ∧ ks.length ≤ 16 ∧ VR wr w.heap.size va zs ∧ VR wr w.heap.size vk ks ∧ VAt wr w.heap.size zs ks ∧ Below w.heap.size w wr) (fun _ _ i _ => 200 - (intOf i).toNat)
  case atStart => exact ⟨0, [], [], rfl, by omega, by omega, by simp, by simp, VR.nil _ _, VR.nil _ _, HV1.out, hB1⟩
  case round =>
    obtain ⟨k, zs, ks, rfl, hk, hk2, hz16, hk16, hva, hvk, hvv, hb⟩ := hrel
    obtain ⟨w9, rfl⟩ : ∃ x, x = wr := ⟨wr, rfl⟩
    obtain ⟨aa, ca, rfl⟩ := hva.1.form
    obtain ⟨ak, ck, rfl⟩ := hvk.1.form
    have HA := hide hva
    have HK := hide hvk
    have HV := hide hvv
    have zr := hvv.lt
    clear hva hvk hvv HV1
    by_cases h1 : k < len
    · by_cases h2 : k < 100
      · obtain ⟨b, off, AA, CC, ha, hlt, hcl, hCk, hCk2, hrow⟩ : ∃ b off, ∃ (AA : Option Addr) (CC : Nat), a = some ⟨b, off, none⟩ ∧ b < w.heap.size ∧ w.cell? ⟨b, off + k, none⟩ = some (.slice AA (zz.getD k []).length CC) ∧ (zz.getD k []).length ≤ CC ∧ CC ≤ maxLen ∧ IntRow w AA (zz.getD k []).length (zz.getD k []) := by
          rcases HR.out with h | ⟨b, off, A, C, h3, h4, h5, h6, h7, h8⟩
          · omega
          · exact ⟨b, off, A k, C k, h3, h4, h7 k h1, (h8 k h1).1, (h8 k h1).2.1, (h8 k h1).2.2⟩
        subst ha
        obtain ⟨zk, hzk⟩ : ∃ zk, zk = zz.getD k [] := ⟨_, rfl⟩
        rw [← hzk] at hcl hCk hrow
        clear hzk
        unfold maxLen at hCk2
        obtain ⟨n, hn⟩ : ∃ n, n = zk.length := ⟨_, rfl⟩
        rw [← hn] at hcl hCk hrow
        have Hcl := hide hcl
        have Hrow := hide hrow.split
        have HBr := hide hb
        clear hcl hrow hn hb
        go_wp2_with fail
        go_loopw [8] (fun j ww => ∃ (m : Nat) (cs : List Int), j = .int .i64 m ∧ m ≤ 4 ∧ m ≤ n ∧ cs.length = 4 ∧ ObjAt ww w9.heap.size 49 (cs.map (Value.int .i64)) ∧ Below w9.heap.size w9 ww) (fun j _ => 10 - (intOf j).toNat)
        case atStart => exact ⟨0, [0, 0, 0, 0], rfl, by omega, by omega, rfl, ObjAt.new _ _ _, (Below.refl _ _).alloc (Nat.le_refl _) _⟩
        case round =>
          obtain ⟨wi, rfl⟩ : ∃ x, x = wr := ⟨wr, rfl⟩
          obtain ⟨m, cs, rfl, hm4, hmn, hcs, ho, hbi⟩ := hrel
          have HOi := hide ho
          have HBi := hide hbi
          have hsz := ho.lt
          have hcl : wi.cell? ⟨b, off + k, none⟩ = some (.slice AA n CC) := (hbi.cell (p := ⟨b, off + k, none⟩) (show b < w9.heap.size by have := HBr.out.size; omega)).trans ((HBr.out.cell (p := ⟨b, off + k, none⟩) hlt).trans Hcl.out)
          clear ho hbi
          by_cases g1 : m < n
          · by_cases g2 : m < 4
            · obtain ⟨b2, off2, rfl, x, hlt2, hx⟩ : ∃ b2 off2, AA = some ⟨b2, off2, none⟩ ∧ ∃ x, b2 < w.heap.size ∧ w.cell? ⟨b2, off2 + m, none⟩ = some (.int .i64 x) := by
                rcases Hrow.out with h | ⟨b2, off2, h3, h4, _, _, h5⟩
                · omega
                · exact ⟨b2, off2, h3, _, h4, h5 m g1⟩
              have hxi : wi.cell? ⟨b2, off2 + m, none⟩ = some (.int .i64 x) := (HBi.out.cell (p := ⟨b2, off2 + m, none⟩) (show b2 < w9.heap.size by have := HBr.out.size; omega)).trans ((HBr.out.cell (p := ⟨b2, off2 + m, none⟩) hlt2).trans hx)
              clear hx
              have hfr := HOi.out.free m
              have hce := HOi.out.cell (i := m) (v := .int .i64 (cs.getD m 0)) (by simp [List.getElem?_eq_getElem (show m < cs.length by omega), List.getD])
              go_wp2
              go_roundw
              case rel => exact ⟨m + 1, cs.set m x, by go_num, by omega, by omega, by simp [hcs], by have q := HOi.out.set m (.int .i64 x); rw [set_map_int] at q; simpa using q, by first | exact HBi.out.setCell (Nat.le_refl _) _ | (simp; exact HBi.out.setCell (Nat.le_refl _) _)⟩
              case measure => simp [intOf] <;> omega
            ·
              obtain ⟨x0, x1, x2, x3, rfl⟩ := map4 hcs
              have hy0 := HBi.out.size
              have hvz : w.heap.size < w9.heap.size := zr
              have hB0 : Below w.heap.size w wi := HBr.out.trans (HBi.out.mono (Nat.le_of_lt zr))
              have HA0 := hide (HA.out.below HBi.out)
              have HK0 := hide (HK.out.below HBi.out)
              have HV0 := hide (HV.out.below HBi.out)
              have HO0 : Hid (ObjAt wi w9.heap.size 49 [.int .i64 x0, .int .i64 x1, .int .i64 x2, .int .i64 x3]) := HOi
              have c0_0 := HO0.out.cell (i := 0) rfl
              have c0_1 := HO0.out.cell (i := 1) rfl
              have c0_2 := HO0.out.cell (i := 2) rfl
              have c0_3 := HO0.out.cell (i := 3) rfl
              clear HA HK HV HBi HOi HBr Hcl Hrow
              by_cases y0 : x0 = 0
              ·
                subst y0
                go_wp2_with fail
                refine (vltSync _ _ HV0.out).mono ?_
                rintro e w1 ⟨rfl, hV1, hk1⟩
                have hB1 : Below w.heap.size w w1 := hB0.trans (hk1.below hB0.size (fun x hx => by simp at hx; omega))
                have HA1 := hide (HA0.out.kept hk1)
                have HK1 := hide (HK0.out.kept hk1)
                have HV1 := hide hV1
                clear hV1
                have O1 := hide (Kept.obj hk1 HO0.out (by simp; omega))
                have HO1 := O1
                have z1 := HO1.out.lt
                clear O1 hk1 c0_0 c0_1 c0_2 c0_3
                have c1_0 := HO1.out.cell (i := 0) rfl
                have c1_1 := HO1.out.cell (i := 1) rfl
                have c1_2 := HO1.out.cell (i := 2) rfl
                have c1_3 := HO1.out.cell (i := 3) rfl
                have HK1 := HA1
                cases hin : inB x1
                ·
                  go_wp2_with fail
                  refine (rIn_eq hin _).mono ?_
                  rintro e w500 ⟨rfl, rfl⟩
                  go_wp2_with fail
                  refine (vltHas (vltN_out hin) _ _ HV1.out).mono ?_
                  rintro e w2 ⟨rfl, hb2⟩
                  have hB2 : Below w.heap.size w w2 := hB1.trans (hb2.mono hB1.size)
                  have HA2 := hide (HA1.out.below hb2)
                  have HK2 := hide (HK1.out.below hb2)
                  have HV2 := hide (HV1.out.below hb2)
                  have O2 := hide (HO1.out.below hb2)
                  have HO2 := O2
                  have z2 := HO2.out.lt
                  clear O2 hb2 c1_0 c1_1 c1_2 c1_3
                  have c2_0 := HO2.out.cell (i := 0) rfl
                  have c2_1 := HO2.out.cell (i := 1) rfl
                  have c2_2 := HO2.out.cell (i := 2) rfl
                  have c2_3 := HO2.out.cell (i := 3) rfl
                  go_wp2_with fail
                  refine (vltSure (vltN_out hin) _ _ HV2.out).mono ?_
                  rintro e w3 ⟨rfl, hb3⟩
                  have hB3 : Below w.heap.size w w3 := hB2.trans (hb3.mono hB2.size)
                  have HA3 := hide (HA2.out.below hb3)
                  have HK3 := hide (HK2.out.below hb3)
                  have HV3 := hide (HV2.out.below hb3)
                  have O3 := hide (HO2.out.below hb3)
                  have HO3 := O3
                  have z3 := HO3.out.lt
                  clear O3 hb3 c2_0 c2_1 c2_2 c2_3
                  have c3_0 := HO3.out.cell (i := 0) rfl
                  have c3_1 := HO3.out.cell (i := 1) rfl
                  have c3_2 := HO3.out.cell (i := 2) rfl
                  have c3_3 := HO3.out.cell (i := 3) rfl
                  go_wp2_with fail
                  refine (error_any (1) (1) _ (hE.below (B := w.heap.size) (by assumption) hE.pos)).mono ?_
                  rintro e w4 ⟨rfl, hb4⟩
                  have hB4 : Below w.heap.size w w4 := hB3.trans (hb4.mono hB3.size)
                  have HA4 := hide (HA3.out.below hb4)
                  have HK4 := hide (HK3.out.below hb4)
                  have HV4 := hide (HV3.out.below hb4)
                  have O4 := hide (HO3.out.below hb4)
                  have HO4 := O4
                  have z4 := HO4.out.lt
                  clear O4 hb4 c3_0 c3_1 c3_2 c3_3
                  have c4_0 := HO4.out.cell (i := 0) rfl
                  have c4_1 := HO4.out.cell (i := 1) rfl
                  have c4_2 := HO4.out.cell (i := 2) rfl
                  have c4_3 := HO4.out.cell (i := 3) rfl
                  go_wp2_with fail
                  refine (error_any (1) (1) _ (hE.below (B := w.heap.size) (by assumption) hE.pos)).mono ?_
                  rintro e w5 ⟨rfl, hb5⟩
                  have hB5 : Below w.heap.size w w5 := hB4.trans (hb5.mono hB4.size)
                  have HA5 := hide (HA4.out.below hb5)
                  have HK5 := hide (HK4.out.below hb5)
                  have HV5 := hide (HV4.out.below hb5)
                  have O5 := hide (HO4.out.below hb5)
                  have HO5 := O5
                  have z5 := HO5.out.lt
                  clear O5 hb5 c4_0 c4_1 c4_2 c4_3
                  have c5_0 := HO5.out.cell (i := 0) rfl
                  have c5_1 := HO5.out.cell (i := 1) rfl
                  have c5_2 := HO5.out.cell (i := 2) rfl
                  have c5_3 := HO5.out.cell (i := 3) rfl
                  go_wp2
                  go_roundw
                  case rel => exact ⟨k + 1, _, _, by go_num, by omega, by omega, hz16, hz16, HA5.out, HK5.out, HV5.out, hB5⟩
                  case measure => simp [intOf] <;> omega
                ·
                  go_wp2_with fail
                  refine (rIn_eq hin _).mono ?_
                  rintro e w500 ⟨rfl, rfl⟩
                  go_wp2_with fail
                  refine (vltHas (vltN_in hin) _ _ HV1.out).mono ?_
                  rintro e w2 ⟨rfl, hb2⟩
                  have hB2 : Below w.heap.size w w2 := hB1.trans (hb2.mono hB1.size)
                  have HA2 := hide (HA1.out.below hb2)
                  have HK2 := hide (HK1.out.below hb2)
                  have HV2 := hide (HV1.out.below hb2)
                  have O2 := hide (HO1.out.below hb2)
                  have HO2 := O2
                  have z2 := HO2.out.lt
                  clear O2 hb2 c1_0 c1_1 c1_2 c1_3
                  have c2_0 := HO2.out.cell (i := 0) rfl
                  have c2_1 := HO2.out.cell (i := 1) rfl
                  have c2_2 := HO2.out.cell (i := 2) rfl
                  have c2_3 := HO2.out.cell (i := 3) rfl
                  go_wp2_with fail
                  refine (vltSure (vltN_in hin) _ _ HV2.out).mono ?_
                  rintro e w3 ⟨rfl, hb3⟩
                  have hB3 : Below w.heap.size w w3 := hB2.trans (hb3.mono hB2.size)
                  have HA3 := hide (HA2.out.below hb3)
                  have HK3 := hide (HK2.out.below hb3)
                  have HV3 := hide (HV2.out.below hb3)
                  have O3 := hide (HO2.out.below hb3)
                  have HO3 := O3
                  have z3 := HO3.out.lt
                  clear O3 hb3 c2_0 c2_1 c2_2 c2_3
                  have c3_0 := HO3.out.cell (i := 0) rfl
                  have c3_1 := HO3.out.cell (i := 1) rfl
                  have c3_2 := HO3.out.cell (i := 2) rfl
                  have c3_3 := HO3.out.cell (i := 3) rfl
                  go_wp2_with fail
                  refine (error_any (0) (0) _ (hE.below (B := w.heap.size) (by assumption) hE.pos)).mono ?_
                  rintro e w4 ⟨rfl, hb4⟩
                  have hB4 : Below w.heap.size w w4 := hB3.trans (hb4.mono hB3.size)
                  have HA4 := hide (HA3.out.below hb4)
                  have HK4 := hide (HK3.out.below hb4)
                  have HV4 := hide (HV3.out.below hb4)
                  have O4 := hide (HO3.out.below hb4)
                  have HO4 := O4
                  have z4 := HO4.out.lt
                  clear O4 hb4 c3_0 c3_1 c3_2 c3_3
                  have c4_0 := HO4.out.cell (i := 0) rfl
                  have c4_1 := HO4.out.cell (i := 1) rfl
                  have c4_2 := HO4.out.cell (i := 2) rfl
                  have c4_3 := HO4.out.cell (i := 3) rfl
                  go_wp2_with fail
                  refine (rHas _ _ _ _ HA4.out.1).mono ?_
                  rintro e w500 ⟨rfl, rfl⟩
                  go_wp2_with fail
                  refine (error_any (0) (0) _ (hE.below (B := w.heap.size) (by assumption) hE.pos)).mono ?_
                  rintro e w5 ⟨rfl, hb5⟩
                  have hB5 : Below w.heap.size w w5 := hB4.trans (hb5.mono hB4.size)
                  have HA5 := hide (HA4.out.below hb5)
                  have HK5 := hide (HK4.out.below hb5)
                  have HV5 := hide (HV4.out.below hb5)
                  have O5 := hide (HO4.out.below hb5)
                  have HO5 := O5
                  have z5 := HO5.out.lt
                  clear O5 hb5 c4_0 c4_1 c4_2 c4_3
                  have c5_0 := HO5.out.cell (i := 0) rfl
                  have c5_1 := HO5.out.cell (i := 1) rfl
                  have c5_2 := HO5.out.cell (i := 2) rfl
                  have c5_3 := HO5.out.cell (i := 3) rfl
                  go_wp2_with fail
                  refine (rHas _ _ _ _ HK5.out.1).mono ?_
                  rintro e w500 ⟨rfl, rfl⟩
                  go_wp2
                  go_roundw
                  case rel => exact ⟨k + 1, _, _, by go_num, by omega, by omega, hz16, hz16, HA5.out, HK5.out, HV5.out, hB5⟩
                  case measure => simp [intOf] <;> omega
              ·
                have y0' : (x0 == 0) = false := beq_eq_false_iff_ne.2 y0
                by_cases y1 : x0 = 1
                ·
                  subst y1
                  go_wp2_with fail
                  refine (vltCrash _ _ HV0.out).mono ?_
                  rintro e w1 ⟨rfl, hV1, hk1⟩
                  have hB1 : Below w.heap.size w w1 := hB0.trans (hk1.below hB0.size (fun x hx => by simp at hx; omega))
                  have HA1 := hide (HA0.out.kept hk1)
                  have HK1 := hide (HK0.out.kept hk1)
                  have HV1 := hide hV1
                  clear hV1
                  have O1 := hide (Kept.obj hk1 HO0.out (by simp; omega))
                  have HO1 := O1
                  have z1 := HO1.out.lt
                  clear O1 hk1 c0_0 c0_1 c0_2 c0_3
                  have c1_0 := HO1.out.cell (i := 0) rfl
                  have c1_1 := HO1.out.cell (i := 1) rfl
                  have c1_2 := HO1.out.cell (i := 2) rfl
                  have c1_3 := HO1.out.cell (i := 3) rfl
                  have HA1 := HK1
                  cases hin : inB x1
                  ·
                    go_wp2_with fail
                    refine (rIn_eq hin _).mono ?_
                    rintro e w500 ⟨rfl, rfl⟩
                    go_wp2_with fail
                    refine (vltHas (vltN_out hin) _ _ HV1.out).mono ?_
                    rintro e w2 ⟨rfl, hb2⟩
                    have hB2 : Below w.heap.size w w2 := hB1.trans (hb2.mono hB1.size)
                    have HA2 := hide (HA1.out.below hb2)
                    have HK2 := hide (HK1.out.below hb2)
                    have HV2 := hide (HV1.out.below hb2)
                    have O2 := hide (HO1.out.below hb2)
                    have HO2 := O2
                    have z2 := HO2.out.lt
                    clear O2 hb2 c1_0 c1_1 c1_2 c1_3
                    have c2_0 := HO2.out.cell (i := 0) rfl
                    have c2_1 := HO2.out.cell (i := 1) rfl
                    have c2_2 := HO2.out.cell (i := 2) rfl
                    have c2_3 := HO2.out.cell (i := 3) rfl
                    go_wp2_with fail
                    refine (vltSure (vltN_out hin) _ _ HV2.out).mono ?_
                    rintro e w3 ⟨rfl, hb3⟩
                    have hB3 : Below w.heap.size w w3 := hB2.trans (hb3.mono hB2.size)
                    have HA3 := hide (HA2.out.below hb3)
                    have HK3 := hide (HK2.out.below hb3)
                    have HV3 := hide (HV2.out.below hb3)
                    have O3 := hide (HO2.out.below hb3)
                    have HO3 := O3
                    have z3 := HO3.out.lt
                    clear O3 hb3 c2_0 c2_1 c2_2 c2_3
                    have c3_0 := HO3.out.cell (i := 0) rfl
                    have c3_1 := HO3.out.cell (i := 1) rfl
                    have c3_2 := HO3.out.cell (i := 2) rfl
                    have c3_3 := HO3.out.cell (i := 3) rfl
                    go_wp2_with fail
                    refine (error_any (1) (1) _ (hE.below (B := w.heap.size) (by assumption) hE.pos)).mono ?_
                    rintro e w4 ⟨rfl, hb4⟩
                    have hB4 : Below w.heap.size w w4 := hB3.trans (hb4.mono hB3.size)
                    have HA4 := hide (HA3.out.below hb4)
                    have HK4 := hide (HK3.out.below hb4)
                    have HV4 := hide (HV3.out.below hb4)
                    have O4 := hide (HO3.out.below hb4)
                    have HO4 := O4
                    have z4 := HO4.out.lt
                    clear O4 hb4 c3_0 c3_1 c3_2 c3_3
                    have c4_0 := HO4.out.cell (i := 0) rfl
                    have c4_1 := HO4.out.cell (i := 1) rfl
                    have c4_2 := HO4.out.cell (i := 2) rfl
                    have c4_3 := HO4.out.cell (i := 3) rfl
                    go_wp2_with fail
                    refine (error_any (1) (1) _ (hE.below (B := w.heap.size) (by assumption) hE.pos)).mono ?_
                    rintro e w5 ⟨rfl, hb5⟩
                    have hB5 : Below w.heap.size w w5 := hB4.trans (hb5.mono hB4.size)
                    have HA5 := hide (HA4.out.below hb5)
                    have HK5 := hide (HK4.out.below hb5)
                    have HV5 := hide (HV4.out.below hb5)
                    have O5 := hide (HO4.out.below hb5)
                    have HO5 := O5
                    have z5 := HO5.out.lt
                    clear O5 hb5 c4_0 c4_1 c4_2 c4_3
                    have c5_0 := HO5.out.cell (i := 0) rfl
                    have c5_1 := HO5.out.cell (i := 1) rfl
                    have c5_2 := HO5.out.cell (i := 2) rfl
                    have c5_3 := HO5.out.cell (i := 3) rfl
                    go_wp2
                    go_roundw
                    case rel => exact ⟨k + 1, _, _, by go_num, by omega, by omega, hk16, hk16, HA5.out, HK5.out, HV5.out, hB5⟩
                    case measure => simp [intOf] <;> omega
                  ·
                    go_wp2_with fail
                    refine (rIn_eq hin _).mono ?_
                    rintro e w500 ⟨rfl, rfl⟩
                    go_wp2_with fail
                    refine (vltHas (vltN_in hin) _ _ HV1.out).mono ?_
                    rintro e w2 ⟨rfl, hb2⟩
                    have hB2 : Below w.heap.size w w2 := hB1.trans (hb2.mono hB1.size)
                    have HA2 := hide (HA1.out.below hb2)
                    have HK2 := hide (HK1.out.below hb2)
                    have HV2 := hide (HV1.out.below hb2)
                    have O2 := hide (HO1.out.below hb2)
                    have HO2 := O2
                    have z2 := HO2.out.lt
                    clear O2 hb2 c1_0 c1_1 c1_2 c1_3
                    have c2_0 := HO2.out.cell (i := 0) rfl
                    have c2_1 := HO2.out.cell (i := 1) rfl
                    have c2_2 := HO2.out.cell (i := 2) rfl
                    have c2_3 := HO2.out.cell (i := 3) rfl
                    go_wp2_with fail
                    refine (vltSure (vltN_in hin) _ _ HV2.out).mono ?_
                    rintro e w3 ⟨rfl, hb3⟩
                    have hB3 : Below w.heap.size w w3 := hB2.trans (hb3.mono hB2.size)
                    have HA3 := hide (HA2.out.below hb3)
                    have HK3 := hide (HK2.out.below hb3)
                    have HV3 := hide (HV2.out.below hb3)
                    have O3 := hide (HO2.out.below hb3)
                    have HO3 := O3
                    have z3 := HO3.out.lt
                    clear O3 hb3 c2_0 c2_1 c2_2 c2_3
                    have c3_0 := HO3.out.cell (i := 0) rfl
                    have c3_1 := HO3.out.cell (i := 1) rfl
                    have c3_2 := HO3.out.cell (i := 2) rfl
                    have c3_3 := HO3.out.cell (i := 3) rfl
                    go_wp2_with fail
                    refine (error_any (0) (0) _ (hE.below (B := w.heap.size) (by assumption) hE.pos)).mono ?_
                    rintro e w4 ⟨rfl, hb4⟩
                    have hB4 : Below w.heap.size w w4 := hB3.trans (hb4.mono hB3.size)
                    have HA4 := hide (HA3.out.below hb4)
                    have HK4 := hide (HK3.out.below hb4)
                    have HV4 := hide (HV3.out.below hb4)
                    have O4 := hide (HO3.out.below hb4)
                    have HO4 := O4
                    have z4 := HO4.out.lt
                    clear O4 hb4 c3_0 c3_1 c3_2 c3_3
                    have c4_0 := HO4.out.cell (i := 0) rfl
                    have c4_1 := HO4.out.cell (i := 1) rfl
                    have c4_2 := HO4.out.cell (i := 2) rfl
                    have c4_3 := HO4.out.cell (i := 3) rfl
                    go_wp2_with fail
                    refine (rHas _ _ _ _ HA4.out.1).mono ?_
                    rintro e w500 ⟨rfl, rfl⟩
                    go_wp2_with fail
                    refine (error_any (0) (0) _ (hE.below (B := w.heap.size) (by assumption) hE.pos)).mono ?_
                    rintro e w5 ⟨rfl, hb5⟩
                    have hB5 : Below w.heap.size w w5 := hB4.trans (hb5.mono hB4.size)
                    have HA5 := hide (HA4.out.below hb5)
                    have HK5 := hide (HK4.out.below hb5)
                    have HV5 := hide (HV4.out.below hb5)
                    have O5 := hide (HO4.out.below hb5)
                    have HO5 := O5
                    have z5 := HO5.out.lt
                    clear O5 hb5 c4_0 c4_1 c4_2 c4_3
                    have c5_0 := HO5.out.cell (i := 0) rfl
                    have c5_1 := HO5.out.cell (i := 1) rfl
                    have c5_2 := HO5.out.cell (i := 2) rfl
                    have c5_3 := HO5.out.cell (i := 3) rfl
                    go_wp2_with fail
                    refine (rHas _ _ _ _ HK5.out.1).mono ?_
                    rintro e w500 ⟨rfl, rfl⟩
                    go_wp2
                    go_roundw
                    case rel => exact ⟨k + 1, _, _, by go_num, by omega, by omega, hk16, hk16, HA5.out, HK5.out, HV5.out, hB5⟩
                    case measure => simp [intOf] <;> omega
                ·
                  have y1' : (x0 == 1) = false := beq_eq_false_iff_ne.2 y1
                  obtain ⟨c, hc⟩ : ∃ c, spMoreE zs x1 x2 x3 = c := ⟨_, rfl⟩
                  by_cases hc0 : c = 0
                  ·
                    subst hc0
                    have hzl := vp_len hz16 hc
                    obtain ⟨ns, hns⟩ : ∃ ns, spDrop zs x3 ++ [(x1, x2)] = ns := ⟨_, rfl⟩
                    rw [hns] at hzl
                    have RS := hide (rSpend_okN hns hz16 hc _ _ HA0.out.1)
                    have VS : Hid (∀ W, VAt W w.heap.size zs ks → Calls Tryd.prog 25 #[.pointer (some ⟨w.heap.size, 0, none⟩), .int .i64 x1, .int .i64 x2, .int .i64 x3] W fun e w' => e = .returned .nilIface ∧ VAt w' w.heap.size ns ks ∧ Kept [w.heap.size] W w') := hide (fun W h => vltSpend_okN hns hc hz16 _ W h)
                    clear hns hc
                    go_wp2_with fail
                    refine RS.out.mono ?_
                    rintro e w1 ⟨va', rfl, hown, hb1⟩
                    have HAN := hide (own_vr hown (Nat.le_trans hzl (by decide)) (show w.heap.size < _ by omega))
                    obtain ⟨a9, c9, rfl⟩ := own_sl hown
                    clear hown
                    have hB1 : Below w.heap.size w w1 := hB0.trans (hb1.mono hB0.size)
                    have HA1 := hide (HA0.out.below hb1)
                    have HK1 := hide (HK0.out.below hb1)
                    have HV1 := hide (HV0.out.below hb1)
                    have O1 := hide (HO0.out.below hb1)
                    have HO1 := O1
                    have z1 := HO1.out.lt
                    clear O1 hb1 c0_0 c0_1 c0_2 c0_3
                    have c1_0 := HO1.out.cell (i := 0) rfl
                    have c1_1 := HO1.out.cell (i := 1) rfl
                    have c1_2 := HO1.out.cell (i := 2) rfl
                    have c1_3 := HO1.out.cell (i := 3) rfl
                    have HA1 := HAN
                    clear HAN
                    go_wp2_with fail
                    refine (VS.out _ HV1.out).mono ?_
                    rintro e w2 ⟨rfl, hV2, hk2⟩
                    have hB2 : Below w.heap.size w w2 := hB1.trans (hk2.below hB1.size (fun x hx => by simp at hx; omega))
                    have HA2 := hide (HA1.out.kept hk2)
                    have HK2 := hide (HK1.out.kept hk2)
                    have HV2 := hide hV2
                    clear hV2
                    have O2 := hide (Kept.obj hk2 HO1.out (by simp; omega))
                    have HO2 := O2
                    have z2 := HO2.out.lt
                    clear O2 hk2 c1_0 c1_1 c1_2 c1_3
                    have c2_0 := HO2.out.cell (i := 0) rfl
                    have c2_1 := HO2.out.cell (i := 1) rfl
                    have c2_2 := HO2.out.cell (i := 2) rfl
                    have c2_3 := HO2.out.cell (i := 3) rfl
                    go_wp2_with fail
                    refine (error_any (0) (0) _ (hE.below (B := w.heap.size) (by assumption) hE.pos)).mono ?_
                    rintro e w3 ⟨rfl, hb3⟩
                    have hB3 : Below w.heap.size w w3 := hB2.trans (hb3.mono hB2.size)
                    have HA3 := hide (HA2.out.below hb3)
                    have HK3 := hide (HK2.out.below hb3)
                    have HV3 := hide (HV2.out.below hb3)
                    have O3 := hide (HO2.out.below hb3)
                    have HO3 := O3
                    have z3 := HO3.out.lt
                    clear O3 hb3 c2_0 c2_1 c2_2 c2_3
                    have c3_0 := HO3.out.cell (i := 0) rfl
                    have c3_1 := HO3.out.cell (i := 1) rfl
                    have c3_2 := HO3.out.cell (i := 2) rfl
                    have c3_3 := HO3.out.cell (i := 3) rfl
                    cases hin : inB x1
                    ·
                      go_wp2_with fail
                      refine (rIn_eq hin _).mono ?_
                      rintro e w500 ⟨rfl, rfl⟩
                      go_wp2_with fail
                      refine (vltHas (vltN_out hin) _ _ HV3.out).mono ?_
                      rintro e w4 ⟨rfl, hb4⟩
                      have hB4 : Below w.heap.size w w4 := hB3.trans (hb4.mono hB3.size)
                      have HA4 := hide (HA3.out.below hb4)
                      have HK4 := hide (HK3.out.below hb4)
                      have HV4 := hide (HV3.out.below hb4)
                      have O4 := hide (HO3.out.below hb4)
                      have HO4 := O4
                      have z4 := HO4.out.lt
                      clear O4 hb4 c3_0 c3_1 c3_2 c3_3
                      have c4_0 := HO4.out.cell (i := 0) rfl
                      have c4_1 := HO4.out.cell (i := 1) rfl
                      have c4_2 := HO4.out.cell (i := 2) rfl
                      have c4_3 := HO4.out.cell (i := 3) rfl
                      go_wp2_with fail
                      refine (vltSure (vltN_out hin) _ _ HV4.out).mono ?_
                      rintro e w5 ⟨rfl, hb5⟩
                      have hB5 : Below w.heap.size w w5 := hB4.trans (hb5.mono hB4.size)
                      have HA5 := hide (HA4.out.below hb5)
                      have HK5 := hide (HK4.out.below hb5)
                      have HV5 := hide (HV4.out.below hb5)
                      have O5 := hide (HO4.out.below hb5)
                      have HO5 := O5
                      have z5 := HO5.out.lt
                      clear O5 hb5 c4_0 c4_1 c4_2 c4_3
                      have c5_0 := HO5.out.cell (i := 0) rfl
                      have c5_1 := HO5.out.cell (i := 1) rfl
                      have c5_2 := HO5.out.cell (i := 2) rfl
                      have c5_3 := HO5.out.cell (i := 3) rfl
                      go_wp2_with fail
                      refine (error_any (1) (1) _ (hE.below (B := w.heap.size) (by assumption) hE.pos)).mono ?_
                      rintro e w6 ⟨rfl, hb6⟩
                      have hB6 : Below w.heap.size w w6 := hB5.trans (hb6.mono hB5.size)
                      have HA6 := hide (HA5.out.below hb6)
                      have HK6 := hide (HK5.out.below hb6)
                      have HV6 := hide (HV5.out.below hb6)
                      have O6 := hide (HO5.out.below hb6)
                      have HO6 := O6
                      have z6 := HO6.out.lt
                      clear O6 hb6 c5_0 c5_1 c5_2 c5_3
                      have c6_0 := HO6.out.cell (i := 0) rfl
                      have c6_1 := HO6.out.cell (i := 1) rfl
                      have c6_2 := HO6.out.cell (i := 2) rfl
                      have c6_3 := HO6.out.cell (i := 3) rfl
                      go_wp2_with fail
                      refine (error_any (1) (1) _ (hE.below (B := w.heap.size) (by assumption) hE.pos)).mono ?_
                      rintro e w7 ⟨rfl, hb7⟩
                      have hB7 : Below w.heap.size w w7 := hB6.trans (hb7.mono hB6.size)
                      have HA7 := hide (HA6.out.below hb7)
                      have HK7 := hide (HK6.out.below hb7)
                      have HV7 := hide (HV6.out.below hb7)
                      have O7 := hide (HO6.out.below hb7)
                      have HO7 := O7
                      have z7 := HO7.out.lt
                      clear O7 hb7 c6_0 c6_1 c6_2 c6_3
                      have c7_0 := HO7.out.cell (i := 0) rfl
                      have c7_1 := HO7.out.cell (i := 1) rfl
                      have c7_2 := HO7.out.cell (i := 2) rfl
                      have c7_3 := HO7.out.cell (i := 3) rfl
                      go_wp2
                      go_roundw
                      case rel => exact ⟨k + 1, _, _, by go_num, by omega, by omega, hzl, hk16, HA7.out, HK7.out, HV7.out, hB7⟩
                      case measure => simp [intOf] <;> omega
                    ·
                      go_wp2_with fail
                      refine (rIn_eq hin _).mono ?_
                      rintro e w500 ⟨rfl, rfl⟩
                      go_wp2_with fail
                      refine (vltHas (vltN_in hin) _ _ HV3.out).mono ?_
                      rintro e w4 ⟨rfl, hb4⟩
                      have hB4 : Below w.heap.size w w4 := hB3.trans (hb4.mono hB3.size)
                      have HA4 := hide (HA3.out.below hb4)
                      have HK4 := hide (HK3.out.below hb4)
                      have HV4 := hide (HV3.out.below hb4)
                      have O4 := hide (HO3.out.below hb4)
                      have HO4 := O4
                      have z4 := HO4.out.lt
                      clear O4 hb4 c3_0 c3_1 c3_2 c3_3
                      have c4_0 := HO4.out.cell (i := 0) rfl
                      have c4_1 := HO4.out.cell (i := 1) rfl
                      have c4_2 := HO4.out.cell (i := 2) rfl
                      have c4_3 := HO4.out.cell (i := 3) rfl
                      go_wp2_with fail
                      refine (vltSure (vltN_in hin) _ _ HV4.out).mono ?_
                      rintro e w5 ⟨rfl, hb5⟩
                      have hB5 : Below w.heap.size w w5 := hB4.trans (hb5.mono hB4.size)
                      have HA5 := hide (HA4.out.below hb5)
                      have HK5 := hide (HK4.out.below hb5)
                      have HV5 := hide (HV4.out.below hb5)
                      have O5 := hide (HO4.out.below hb5)
                      have HO5 := O5
                      have z5 := HO5.out.lt
                      clear O5 hb5 c4_0 c4_1 c4_2 c4_3
                      have c5_0 := HO5.out.cell (i := 0) rfl
                      have c5_1 := HO5.out.cell (i := 1) rfl
                      have c5_2 := HO5.out.cell (i := 2) rfl
                      have c5_3 := HO5.out.cell (i := 3) rfl
                      go_wp2_with fail
                      refine (error_any (0) (0) _ (hE.below (B := w.heap.size) (by assumption) hE.pos)).mono ?_
                      rintro e w6 ⟨rfl, hb6⟩
                      have hB6 : Below w.heap.size w w6 := hB5.trans (hb6.mono hB5.size)
                      have HA6 := hide (HA5.out.below hb6)
                      have HK6 := hide (HK5.out.below hb6)
                      have HV6 := hide (HV5.out.below hb6)
                      have O6 := hide (HO5.out.below hb6)
                      have HO6 := O6
                      have z6 := HO6.out.lt
                      clear O6 hb6 c5_0 c5_1 c5_2 c5_3
                      have c6_0 := HO6.out.cell (i := 0) rfl
                      have c6_1 := HO6.out.cell (i := 1) rfl
                      have c6_2 := HO6.out.cell (i := 2) rfl
                      have c6_3 := HO6.out.cell (i := 3) rfl
                      go_wp2_with fail
                      refine (rHas _ _ _ _ HA6.out.1).mono ?_
                      rintro e w500 ⟨rfl, rfl⟩
                      go_wp2_with fail
                      refine (error_any (0) (0) _ (hE.below (B := w.heap.size) (by assumption) hE.pos)).mono ?_
                      rintro e w7 ⟨rfl, hb7⟩
                      have hB7 : Below w.heap.size w w7 := hB6.trans (hb7.mono hB6.size)
                      have HA7 := hide (HA6.out.below hb7)
                      have HK7 := hide (HK6.out.below hb7)
                      have HV7 := hide (HV6.out.below hb7)
                      have O7 := hide (HO6.out.below hb7)
                      have HO7 := O7
                      have z7 := HO7.out.lt
                      clear O7 hb7 c6_0 c6_1 c6_2 c6_3
                      have c7_0 := HO7.out.cell (i := 0) rfl
                      have c7_1 := HO7.out.cell (i := 1) rfl
                      have c7_2 := HO7.out.cell (i := 2) rfl
                      have c7_3 := HO7.out.cell (i := 3) rfl
                      go_wp2_with fail
                      refine (rHas _ _ _ _ HK7.out.1).mono ?_
                      rintro e w500 ⟨rfl, rfl⟩
                      go_wp2
                      go_roundw
                      case rel => exact ⟨k + 1, _, _, by go_num, by omega, by omega, hzl, hk16, HA7.out, HK7.out, HV7.out, hB7⟩
                      case measure => simp [intOf] <;> omega
                  ·
                    have hc1 : (c == 0) = false := beq_eq_false_iff_ne.2 hc0
                    go_wp2_with fail
                    refine (rSpend_bad hz16 hc hc0 _ _ HA0.out.1).mono ?_
                    rintro e w1 ⟨rfl, hb1⟩
                    have hB1 : Below w.heap.size w w1 := hB0.trans (hb1.mono hB0.size)
                    have HA1 := hide (HA0.out.below hb1)
                    have HK1 := hide (HK0.out.below hb1)
                    have HV1 := hide (HV0.out.below hb1)
                    have O1 := hide (HO0.out.below hb1)
                    have HO1 := O1
                    have z1 := HO1.out.lt
                    clear O1 hb1 c0_0 c0_1 c0_2 c0_3
                    have c1_0 := HO1.out.cell (i := 0) rfl
                    have c1_1 := HO1.out.cell (i := 1) rfl
                    have c1_2 := HO1.out.cell (i := 2) rfl
                    have c1_3 := HO1.out.cell (i := 3) rfl
                    go_wp2_with fail
                    refine (vltSpend_bad hc hc0 _ _ HV1.out).mono ?_
                    rintro e w2 ⟨rfl, hV2, hk2⟩
                    have hB2 : Below w.heap.size w w2 := hB1.trans (hk2.below hB1.size (fun x hx => by simp at hx; omega))
                    have HA2 := hide (HA1.out.kept hk2)
                    have HK2 := hide (HK1.out.kept hk2)
                    have HV2 := hide hV2
                    clear hV2
                    have O2 := hide (Kept.obj hk2 HO1.out (by simp; omega))
                    have HO2 := O2
                    have z2 := HO2.out.lt
                    clear O2 hk2 c1_0 c1_1 c1_2 c1_3
                    have c2_0 := HO2.out.cell (i := 0) rfl
                    have c2_1 := HO2.out.cell (i := 1) rfl
                    have c2_2 := HO2.out.cell (i := 2) rfl
                    have c2_3 := HO2.out.cell (i := 3) rfl
                    go_wp2_with fail
                    refine (error_any (c) (c) _ (hE.below (B := w.heap.size) (by assumption) hE.pos)).mono ?_
                    rintro e w3 ⟨rfl, hb3⟩
                    have hB3 : Below w.heap.size w w3 := hB2.trans (hb3.mono hB2.size)
                    have HA3 := hide (HA2.out.below hb3)
                    have HK3 := hide (HK2.out.below hb3)
                    have HV3 := hide (HV2.out.below hb3)
                    have O3 := hide (HO2.out.below hb3)
                    have HO3 := O3
                    have z3 := HO3.out.lt
                    clear O3 hb3 c2_0 c2_1 c2_2 c2_3
                    have c3_0 := HO3.out.cell (i := 0) rfl
                    have c3_1 := HO3.out.cell (i := 1) rfl
                    have c3_2 := HO3.out.cell (i := 2) rfl
                    have c3_3 := HO3.out.cell (i := 3) rfl
                    cases hin : inB x1
                    ·
                      go_wp2_with fail
                      refine (rIn_eq hin _).mono ?_
                      rintro e w500 ⟨rfl, rfl⟩
                      go_wp2_with fail
                      refine (vltHas (vltN_out hin) _ _ HV3.out).mono ?_
                      rintro e w4 ⟨rfl, hb4⟩
                      have hB4 : Below w.heap.size w w4 := hB3.trans (hb4.mono hB3.size)
                      have HA4 := hide (HA3.out.below hb4)
                      have HK4 := hide (HK3.out.below hb4)
                      have HV4 := hide (HV3.out.below hb4)
                      have O4 := hide (HO3.out.below hb4)
                      have HO4 := O4
                      have z4 := HO4.out.lt
                      clear O4 hb4 c3_0 c3_1 c3_2 c3_3
                      have c4_0 := HO4.out.cell (i := 0) rfl
                      have c4_1 := HO4.out.cell (i := 1) rfl
                      have c4_2 := HO4.out.cell (i := 2) rfl
                      have c4_3 := HO4.out.cell (i := 3) rfl
                      go_wp2_with fail
                      refine (vltSure (vltN_out hin) _ _ HV4.out).mono ?_
                      rintro e w5 ⟨rfl, hb5⟩
                      have hB5 : Below w.heap.size w w5 := hB4.trans (hb5.mono hB4.size)
                      have HA5 := hide (HA4.out.below hb5)
                      have HK5 := hide (HK4.out.below hb5)
                      have HV5 := hide (HV4.out.below hb5)
                      have O5 := hide (HO4.out.below hb5)
                      have HO5 := O5
                      have z5 := HO5.out.lt
                      clear O5 hb5 c4_0 c4_1 c4_2 c4_3
                      have c5_0 := HO5.out.cell (i := 0) rfl
                      have c5_1 := HO5.out.cell (i := 1) rfl
                      have c5_2 := HO5.out.cell (i := 2) rfl
                      have c5_3 := HO5.out.cell (i := 3) rfl
                      go_wp2_with fail
                      refine (error_any (1) (1) _ (hE.below (B := w.heap.size) (by assumption) hE.pos)).mono ?_
                      rintro e w6 ⟨rfl, hb6⟩
                      have hB6 : Below w.heap.size w w6 := hB5.trans (hb6.mono hB5.size)
                      have HA6 := hide (HA5.out.below hb6)
                      have HK6 := hide (HK5.out.below hb6)
                      have HV6 := hide (HV5.out.below hb6)
                      have O6 := hide (HO5.out.below hb6)
                      have HO6 := O6
                      have z6 := HO6.out.lt
                      clear O6 hb6 c5_0 c5_1 c5_2 c5_3
                      have c6_0 := HO6.out.cell (i := 0) rfl
                      have c6_1 := HO6.out.cell (i := 1) rfl
                      have c6_2 := HO6.out.cell (i := 2) rfl
                      have c6_3 := HO6.out.cell (i := 3) rfl
                      go_wp2_with fail
                      refine (error_any (1) (1) _ (hE.below (B := w.heap.size) (by assumption) hE.pos)).mono ?_
                      rintro e w7 ⟨rfl, hb7⟩
                      have hB7 : Below w.heap.size w w7 := hB6.trans (hb7.mono hB6.size)
                      have HA7 := hide (HA6.out.below hb7)
                      have HK7 := hide (HK6.out.below hb7)
                      have HV7 := hide (HV6.out.below hb7)
                      have O7 := hide (HO6.out.below hb7)
                      have HO7 := O7
                      have z7 := HO7.out.lt
                      clear O7 hb7 c6_0 c6_1 c6_2 c6_3
                      have c7_0 := HO7.out.cell (i := 0) rfl
                      have c7_1 := HO7.out.cell (i := 1) rfl
                      have c7_2 := HO7.out.cell (i := 2) rfl
                      have c7_3 := HO7.out.cell (i := 3) rfl
                      go_wp2
                      go_roundw
                      case rel => exact ⟨k + 1, _, _, by go_num, by omega, by omega, hz16, hk16, HA7.out, HK7.out, HV7.out, hB7⟩
                      case measure => simp [intOf] <;> omega
                    ·
                      go_wp2_with fail
                      refine (rIn_eq hin _).mono ?_
                      rintro e w500 ⟨rfl, rfl⟩
                      go_wp2_with fail
                      refine (vltHas (vltN_in hin) _ _ HV3.out).mono ?_
                      rintro e w4 ⟨rfl, hb4⟩
                      have hB4 : Below w.heap.size w w4 := hB3.trans (hb4.mono hB3.size)
                      have HA4 := hide (HA3.out.below hb4)
                      have HK4 := hide (HK3.out.below hb4)
                      have HV4 := hide (HV3.out.below hb4)
                      have O4 := hide (HO3.out.below hb4)
                      have HO4 := O4
                      have z4 := HO4.out.lt
                      clear O4 hb4 c3_0 c3_1 c3_2 c3_3
                      have c4_0 := HO4.out.cell (i := 0) rfl
                      have c4_1 := HO4.out.cell (i := 1) rfl
                      have c4_2 := HO4.out.cell (i := 2) rfl
                      have c4_3 := HO4.out.cell (i := 3) rfl
                      go_wp2_with fail
                      refine (vltSure (vltN_in hin) _ _ HV4.out).mono ?_
                      rintro e w5 ⟨rfl, hb5⟩
                      have hB5 : Below w.heap.size w w5 := hB4.trans (hb5.mono hB4.size)
                      have HA5 := hide (HA4.out.below hb5)
                      have HK5 := hide (HK4.out.below hb5)
                      have HV5 := hide (HV4.out.below hb5)
                      have O5 := hide (HO4.out.below hb5)
                      have HO5 := O5
                      have z5 := HO5.out.lt
                      clear O5 hb5 c4_0 c4_1 c4_2 c4_3
                      have c5_0 := HO5.out.cell (i := 0) rfl
                      have c5_1 := HO5.out.cell (i := 1) rfl
                      have c5_2 := HO5.out.cell (i := 2) rfl
                      have c5_3 := HO5.out.cell (i := 3) rfl
                      go_wp2_with fail
                      refine (error_any (0) (0) _ (hE.below (B := w.heap.size) (by assumption) hE.pos)).mono ?_
                      rintro e w6 ⟨rfl, hb6⟩
                      have hB6 : Below w.heap.size w w6 := hB5.trans (hb6.mono hB5.size)
                      have HA6 := hide (HA5.out.below hb6)
                      have HK6 := hide (HK5.out.below hb6)
                      have HV6 := hide (HV5.out.below hb6)
                      have O6 := hide (HO5.out.below hb6)
                      have HO6 := O6
                      have z6 := HO6.out.lt
                      clear O6 hb6 c5_0 c5_1 c5_2 c5_3
                      have c6_0 := HO6.out.cell (i := 0) rfl
                      have c6_1 := HO6.out.cell (i := 1) rfl
                      have c6_2 := HO6.out.cell (i := 2) rfl
                      have c6_3 := HO6.out.cell (i := 3) rfl
                      go_wp2_with fail
                      refine (rHas _ _ _ _ HA6.out.1).mono ?_
                      rintro e w500 ⟨rfl, rfl⟩
                      go_wp2_with fail
                      refine (error_any (0) (0) _ (hE.below (B := w.heap.size) (by assumption) hE.pos)).mono ?_
                      rintro e w7 ⟨rfl, hb7⟩
                      have hB7 : Below w.heap.size w w7 := hB6.trans (hb7.mono hB6.size)
                      have HA7 := hide (HA6.out.below hb7)
                      have HK7 := hide (HK6.out.below hb7)
                      have HV7 := hide (HV6.out.below hb7)
                      have O7 := hide (HO6.out.below hb7)
                      have HO7 := O7
                      have z7 := HO7.out.lt
                      clear O7 hb7 c6_0 c6_1 c6_2 c6_3
                      have c7_0 := HO7.out.cell (i := 0) rfl
                      have c7_1 := HO7.out.cell (i := 1) rfl
                      have c7_2 := HO7.out.cell (i := 2) rfl
                      have c7_3 := HO7.out.cell (i := 3) rfl
                      go_wp2_with fail
                      refine (rHas _ _ _ _ HK7.out.1).mono ?_
                      rintro e w500 ⟨rfl, rfl⟩
                      go_wp2
                      go_roundw
                      case rel => exact ⟨k + 1, _, _, by go_num, by omega, by omega, hz16, hk16, HA7.out, HK7.out, HV7.out, hB7⟩
                      case measure => simp [intOf] <;> omega
          ·
            obtain ⟨x0, x1, x2, x3, rfl⟩ := map4 hcs
            have hy0 := HBi.out.size
            have hvz : w.heap.size < w9.heap.size := zr
            have hB0 : Below w.heap.size w wi := HBr.out.trans (HBi.out.mono (Nat.le_of_lt zr))
            have HA0 := hide (HA.out.below HBi.out)
            have HK0 := hide (HK.out.below HBi.out)
            have HV0 := hide (HV.out.below HBi.out)
            have HO0 : Hid (ObjAt wi w9.heap.size 49 [.int .i64 x0, .int .i64 x1, .int .i64 x2, .int .i64 x3]) := HOi
            have c0_0 := HO0.out.cell (i := 0) rfl
            have c0_1 := HO0.out.cell (i := 1) rfl
            have c0_2 := HO0.out.cell (i := 2) rfl
            have c0_3 := HO0.out.cell (i := 3) rfl
            clear HA HK HV HBi HOi HBr Hcl Hrow
            by_cases y0 : x0 = 0
            ·
              subst y0
              go_wp2_with fail
              refine (vltSync _ _ HV0.out).mono ?_
              rintro e w1 ⟨rfl, hV1, hk1⟩
              have hB1 : Below w.heap.size w w1 := hB0.trans (hk1.below hB0.size (fun x hx => by simp at hx; omega))
              have HA1 := hide (HA0.out.kept hk1)
              have HK1 := hide (HK0.out.kept hk1)
              have HV1 := hide hV1
              clear hV1
              have O1 := hide (Kept.obj hk1 HO0.out (by simp; omega))
              have HO1 := O1
              have z1 := HO1.out.lt
              clear O1 hk1 c0_0 c0_1 c0_2 c0_3
              have c1_0 := HO1.out.cell (i := 0) rfl
              have c1_1 := HO1.out.cell (i := 1) rfl
              have c1_2 := HO1.out.cell (i := 2) rfl
              have c1_3 := HO1.out.cell (i := 3) rfl
              have HK1 := HA1
              cases hin : inB x1
              ·
                go_wp2_with fail
                refine (rIn_eq hin _).mono ?_
                rintro e w500 ⟨rfl, rfl⟩
                go_wp2_with fail
                refine (vltHas (vltN_out hin) _ _ HV1.out).mono ?_
                rintro e w2 ⟨rfl, hb2⟩
                have hB2 : Below w.heap.size w w2 := hB1.trans (hb2.mono hB1.size)
                have HA2 := hide (HA1.out.below hb2)
                have HK2 := hide (HK1.out.below hb2)
                have HV2 := hide (HV1.out.below hb2)
                have O2 := hide (HO1.out.below hb2)
                have HO2 := O2
                have z2 := HO2.out.lt
                clear O2 hb2 c1_0 c1_1 c1_2 c1_3
                have c2_0 := HO2.out.cell (i := 0) rfl
                have c2_1 := HO2.out.cell (i := 1) rfl
                have c2_2 := HO2.out.cell (i := 2) rfl
                have c2_3 := HO2.out.cell (i := 3) rfl
                go_wp2_with fail
                refine (vltSure (vltN_out hin) _ _ HV2.out).mono ?_
                rintro e w3 ⟨rfl, hb3⟩
                have hB3 : Below w.heap.size w w3 := hB2.trans (hb3.mono hB2.size)
                have HA3 := hide (HA2.out.below hb3)
                have HK3 := hide (HK2.out.below hb3)
                have HV3 := hide (HV2.out.below hb3)
                have O3 := hide (HO2.out.below hb3)
                have HO3 := O3
                have z3 := HO3.out.lt
                clear O3 hb3 c2_0 c2_1 c2_2 c2_3
                have c3_0 := HO3.out.cell (i := 0) rfl
                have c3_1 := HO3.out.cell (i := 1) rfl
                have c3_2 := HO3.out.cell (i := 2) rfl
                have c3_3 := HO3.out.cell (i := 3) rfl
                go_wp2_with fail
                refine (error_any (1) (1) _ (hE.below (B := w.heap.size) (by assumption) hE.pos)).mono ?_
                rintro e w4 ⟨rfl, hb4⟩
                have hB4 : Below w.heap.size w w4 := hB3.trans (hb4.mono hB3.size)
                have HA4 := hide (HA3.out.below hb4)
                have HK4 := hide (HK3.out.below hb4)
                have HV4 := hide (HV3.out.below hb4)
                have O4 := hide (HO3.out.below hb4)
                have HO4 := O4
                have z4 := HO4.out.lt
                clear O4 hb4 c3_0 c3_1 c3_2 c3_3
                have c4_0 := HO4.out.cell (i := 0) rfl
                have c4_1 := HO4.out.cell (i := 1) rfl
                have c4_2 := HO4.out.cell (i := 2) rfl
                have c4_3 := HO4.out.cell (i := 3) rfl
                go_wp2_with fail
                refine (error_any (1) (1) _ (hE.below (B := w.heap.size) (by assumption) hE.pos)).mono ?_
                rintro e w5 ⟨rfl, hb5⟩
                have hB5 : Below w.heap.size w w5 := hB4.trans (hb5.mono hB4.size)
                have HA5 := hide (HA4.out.below hb5)
                have HK5 := hide (HK4.out.below hb5)
                have HV5 := hide (HV4.out.below hb5)
                have O5 := hide (HO4.out.below hb5)
                have HO5 := O5
                have z5 := HO5.out.lt
                clear O5 hb5 c4_0 c4_1 c4_2 c4_3
                have c5_0 := HO5.out.cell (i := 0) rfl
                have c5_1 := HO5.out.cell (i := 1) rfl
                have c5_2 := HO5.out.cell (i := 2) rfl
                have c5_3 := HO5.out.cell (i := 3) rfl
                go_wp2
                go_roundw
                case rel => exact ⟨k + 1, _, _, by go_num, by omega, by omega, hz16, hz16, HA5.out, HK5.out, HV5.out, hB5⟩
                case measure => simp [intOf] <;> omega
              ·
                go_wp2_with fail
                refine (rIn_eq hin _).mono ?_
                rintro e w500 ⟨rfl, rfl⟩
                go_wp2_with fail
                refine (vltHas (vltN_in hin) _ _ HV1.out).mono ?_
                rintro e w2 ⟨rfl, hb2⟩
                have hB2 : Below w.heap.size w w2 := hB1.trans (hb2.mono hB1.size)
                have HA2 := hide (HA1.out.below hb2)
                have HK2 := hide (HK1.out.below hb2)
                have HV2 := hide (HV1.out.below hb2)
                have O2 := hide (HO1.out.below hb2)
                have HO2 := O2
                have z2 := HO2.out.lt
                clear O2 hb2 c1_0 c1_1 c1_2 c1_3
                have c2_0 := HO2.out.cell (i := 0) rfl
                have c2_1 := HO2.out.cell (i := 1) rfl
                have c2_2 := HO2.out.cell (i := 2) rfl
                have c2_3 := HO2.out.cell (i := 3) rfl
                go_wp2_with fail
                refine (vltSure (vltN_in hin) _ _ HV2.out).mono ?_
                rintro e w3 ⟨rfl, hb3⟩
                have hB3 : Below w.heap.size w w3 := hB2.trans (hb3.mono hB2.size)
                have HA3 := hide (HA2.out.below hb3)
                have HK3 := hide (HK2.out.below hb3)
                have HV3 := hide (HV2.out.below hb3)
                have O3 := hide (HO2.out.below hb3)
                have HO3 := O3
                have z3 := HO3.out.lt
                clear O3 hb3 c2_0 c2_1 c2_2 c2_3
                have c3_0 := HO3.out.cell (i := 0) rfl
                have c3_1 := HO3.out.cell (i := 1) rfl
                have c3_2 := HO3.out.cell (i := 2) rfl
                have c3_3 := HO3.out.cell (i := 3) rfl
                go_wp2_with fail
                refine (error_any (0) (0) _ (hE.below (B := w.heap.size) (by assumption) hE.pos)).mono ?_
                rintro e w4 ⟨rfl, hb4⟩
                have hB4 : Below w.heap.size w w4 := hB3.trans (hb4.mono hB3.size)
                have HA4 := hide (HA3.out.below hb4)
                have HK4 := hide (HK3.out.below hb4)
                have HV4 := hide (HV3.out.below hb4)
                have O4 := hide (HO3.out.below hb4)
                have HO4 := O4
                have z4 := HO4.out.lt
                clear O4 hb4 c3_0 c3_1 c3_2 c3_3
                have c4_0 := HO4.out.cell (i := 0) rfl
                have c4_1 := HO4.out.cell (i := 1) rfl
                have c4_2 := HO4.out.cell (i := 2) rfl
                have c4_3 := HO4.out.cell (i := 3) rfl
                go_wp2_with fail
                refine (rHas _ _ _ _ HA4.out.1).mono ?_
                rintro e w500 ⟨rfl, rfl⟩
                go_wp2_with fail
                refine (error_any (0) (0) _ (hE.below (B := w.heap.size) (by assumption) hE.pos)).mono ?_
                rintro e w5 ⟨rfl, hb5⟩
                have hB5 : Below w.heap.size w w5 := hB4.trans (hb5.mono hB4.size)
                have HA5 := hide (HA4.out.below hb5)
                have HK5 := hide (HK4.out.below hb5)
                have HV5 := hide (HV4.out.below hb5)
                have O5 := hide (HO4.out.below hb5)
                have HO5 := O5
                have z5 := HO5.out.lt
                clear O5 hb5 c4_0 c4_1 c4_2 c4_3
                have c5_0 := HO5.out.cell (i := 0) rfl
                have c5_1 := HO5.out.cell (i := 1) rfl
                have c5_2 := HO5.out.cell (i := 2) rfl
                have c5_3 := HO5.out.cell (i := 3) rfl
                go_wp2_with fail
                refine (rHas _ _ _ _ HK5.out.1).mono ?_
                rintro e w500 ⟨rfl, rfl⟩
                go_wp2
                go_roundw
                case rel => exact ⟨k + 1, _, _, by go_num, by omega, by omega, hz16, hz16, HA5.out, HK5.out, HV5.out, hB5⟩
                case measure => simp [intOf] <;> omega
            ·
              have y0' : (x0 == 0) = false := beq_eq_false_iff_ne.2 y0
              by_cases y1 : x0 = 1
              ·
                subst y1
                go_wp2_with fail
                refine (vltCrash _ _ HV0.out).mono ?_
                rintro e w1 ⟨rfl, hV1, hk1⟩
                have hB1 : Below w.heap.size w w1 := hB0.trans (hk1.below hB0.size (fun x hx => by simp at hx; omega))
                have HA1 := hide (HA0.out.kept hk1)
                have HK1 := hide (HK0.out.kept hk1)
                have HV1 := hide hV1
                clear hV1
                have O1 := hide (Kept.obj hk1 HO0.out (by simp; omega))
                have HO1 := O1
                have z1 := HO1.out.lt
                clear O1 hk1 c0_0 c0_1 c0_2 c0_3
                have c1_0 := HO1.out.cell (i := 0) rfl
                have c1_1 := HO1.out.cell (i := 1) rfl
                have c1_2 := HO1.out.cell (i := 2) rfl
                have c1_3 := HO1.out.cell (i := 3) rfl
                have HA1 := HK1
                cases hin : inB x1
                ·
                  go_wp2_with fail
                  refine (rIn_eq hin _).mono ?_
                  rintro e w500 ⟨rfl, rfl⟩
                  go_wp2_with fail
                  refine (vltHas (vltN_out hin) _ _ HV1.out).mono ?_
                  rintro e w2 ⟨rfl, hb2⟩
                  have hB2 : Below w.heap.size w w2 := hB1.trans (hb2.mono hB1.size)
                  have HA2 := hide (HA1.out.below hb2)
                  have HK2 := hide (HK1.out.below hb2)
                  have HV2 := hide (HV1.out.below hb2)
                  have O2 := hide (HO1.out.below hb2)
                  have HO2 := O2
                  have z2 := HO2.out.lt
                  clear O2 hb2 c1_0 c1_1 c1_2 c1_3
                  have c2_0 := HO2.out.cell (i := 0) rfl
                  have c2_1 := HO2.out.cell (i := 1) rfl
                  have c2_2 := HO2.out.cell (i := 2) rfl
                  have c2_3 := HO2.out.cell (i := 3) rfl
                  go_wp2_with fail
                  refine (vltSure (vltN_out hin) _ _ HV2.out).mono ?_
                  rintro e w3 ⟨rfl, hb3⟩
                  have hB3 : Below w.heap.size w w3 := hB2.trans (hb3.mono hB2.size)
                  have HA3 := hide (HA2.out.below hb3)
                  have HK3 := hide (HK2.out.below hb3)
                  have HV3 := hide (HV2.out.below hb3)
                  have O3 := hide (HO2.out.below hb3)
                  have HO3 := O3
                  have z3 := HO3.out.lt
                  clear O3 hb3 c2_0 c2_1 c2_2 c2_3
                  have c3_0 := HO3.out.cell (i := 0) rfl
                  have c3_1 := HO3.out.cell (i := 1) rfl
                  have c3_2 := HO3.out.cell (i := 2) rfl
                  have c3_3 := HO3.out.cell (i := 3) rfl
                  go_wp2_with fail
                  refine (error_any (1) (1) _ (hE.below (B := w.heap.size) (by assumption) hE.pos)).mono ?_
                  rintro e w4 ⟨rfl, hb4⟩
                  have hB4 : Below w.heap.size w w4 := hB3.trans (hb4.mono hB3.size)
                  have HA4 := hide (HA3.out.below hb4)
                  have HK4 := hide (HK3.out.below hb4)
                  have HV4 := hide (HV3.out.below hb4)
                  have O4 := hide (HO3.out.below hb4)
                  have HO4 := O4
                  have z4 := HO4.out.lt
                  clear O4 hb4 c3_0 c3_1 c3_2 c3_3
                  have c4_0 := HO4.out.cell (i := 0) rfl
                  have c4_1 := HO4.out.cell (i := 1) rfl
                  have c4_2 := HO4.out.cell (i := 2) rfl
                  have c4_3 := HO4.out.cell (i := 3) rfl
                  go_wp2_with fail
                  refine (error_any (1) (1) _ (hE.below (B := w.heap.size) (by assumption) hE.pos)).mono ?_
                  rintro e w5 ⟨rfl, hb5⟩
                  have hB5 : Below w.heap.size w w5 := hB4.trans (hb5.mono hB4.size)
                  have HA5 := hide (HA4.out.below hb5)
                  have HK5 := hide (HK4.out.below hb5)
                  have HV5 := hide (HV4.out.below hb5)
                  have O5 := hide (HO4.out.below hb5)
                  have HO5 := O5
                  have z5 := HO5.out.lt
                  clear O5 hb5 c4_0 c4_1 c4_2 c4_3
                  have c5_0 := HO5.out.cell (i := 0) rfl
                  have c5_1 := HO5.out.cell (i := 1) rfl
                  have c5_2 := HO5.out.cell (i := 2) rfl
                  have c5_3 := HO5.out.cell (i := 3) rfl
                  go_wp2
                  go_roundw
                  case rel => exact ⟨k + 1, _, _, by go_num, by omega, by omega, hk16, hk16, HA5.out, HK5.out, HV5.out, hB5⟩
                  case measure => simp [intOf] <;> omega
                ·
                  go_wp2_with fail
                  refine (rIn_eq hin _).mono ?_
                  rintro e w500 ⟨rfl, rfl⟩
                  go_wp2_with fail
                  refine (vltHas (vltN_in hin) _ _ HV1.out).mono ?_
                  rintro e w2 ⟨rfl, hb2⟩
                  have hB2 : Below w.heap.size w w2 := hB1.trans (hb2.mono hB1.size)
                  have HA2 := hide (HA1.out.below hb2)
                  have HK2 := hide (HK1.out.below hb2)
                  have HV2 := hide (HV1.out.below hb2)
                  have O2 := hide (HO1.out.below hb2)
                  have HO2 := O2
                  have z2 := HO2.out.lt
                  clear O2 hb2 c1_0 c1_1 c1_2 c1_3
                  have c2_0 := HO2.out.cell (i := 0) rfl
                  have c2_1 := HO2.out.cell (i := 1) rfl
                  have c2_2 := HO2.out.cell (i := 2) rfl
                  have c2_3 := HO2.out.cell (i := 3) rfl
                  go_wp2_with fail
                  refine (vltSure (vltN_in hin) _ _ HV2.out).mono ?_
                  rintro e w3 ⟨rfl, hb3⟩
                  have hB3 : Below w.heap.size w w3 := hB2.trans (hb3.mono hB2.size)
                  have HA3 := hide (HA2.out.below hb3)
                  have HK3 := hide (HK2.out.below hb3)
                  have HV3 := hide (HV2.out.below hb3)
                  have O3 := hide (HO2.out.below hb3)
                  have HO3 := O3
                  have z3 := HO3.out.lt
                  clear O3 hb3 c2_0 c2_1 c2_2 c2_3
                  have c3_0 := HO3.out.cell (i := 0) rfl
                  have c3_1 := HO3.out.cell (i := 1) rfl
                  have c3_2 := HO3.out.cell (i := 2) rfl
                  have c3_3 := HO3.out.cell (i := 3) rfl
                  go_wp2_with fail
                  refine (error_any (0) (0) _ (hE.below (B := w.heap.size) (by assumption) hE.pos)).mono ?_
                  rintro e w4 ⟨rfl, hb4⟩
                  have hB4 : Below w.heap.size w w4 := hB3.trans (hb4.mono hB3.size)
                  have HA4 := hide (HA3.out.below hb4)
                  have HK4 := hide (HK3.out.below hb4)
                  have HV4 := hide (HV3.out.below hb4)
                  have O4 := hide (HO3.out.below hb4)
                  have HO4 := O4
                  have z4 := HO4.out.lt
                  clear O4 hb4 c3_0 c3_1 c3_2 c3_3
                  have c4_0 := HO4.out.cell (i := 0) rfl
                  have c4_1 := HO4.out.cell (i := 1) rfl
                  have c4_2 := HO4.out.cell (i := 2) rfl
                  have c4_3 := HO4.out.cell (i := 3) rfl
                  go_wp2_with fail
                  refine (rHas _ _ _ _ HA4.out.1).mono ?_
                  rintro e w500 ⟨rfl, rfl⟩
                  go_wp2_with fail
                  refine (error_any (0) (0) _ (hE.below (B := w.heap.size) (by assumption) hE.pos)).mono ?_
                  rintro e w5 ⟨rfl, hb5⟩
                  have hB5 : Below w.heap.size w w5 := hB4.trans (hb5.mono hB4.size)
                  have HA5 := hide (HA4.out.below hb5)
                  have HK5 := hide (HK4.out.below hb5)
                  have HV5 := hide (HV4.out.below hb5)
                  have O5 := hide (HO4.out.below hb5)
                  have HO5 := O5
                  have z5 := HO5.out.lt
                  clear O5 hb5 c4_0 c4_1 c4_2 c4_3
                  have c5_0 := HO5.out.cell (i := 0) rfl
                  have c5_1 := HO5.out.cell (i := 1) rfl
                  have c5_2 := HO5.out.cell (i := 2) rfl
                  have c5_3 := HO5.out.cell (i := 3) rfl
                  go_wp2_with fail
                  refine (rHas _ _ _ _ HK5.out.1).mono ?_
                  rintro e w500 ⟨rfl, rfl⟩
                  go_wp2
                  go_roundw
                  case rel => exact ⟨k + 1, _, _, by go_num, by omega, by omega, hk16, hk16, HA5.out, HK5.out, HV5.out, hB5⟩
                  case measure => simp [intOf] <;> omega
              ·
                have y1' : (x0 == 1) = false := beq_eq_false_iff_ne.2 y1
                obtain ⟨c, hc⟩ : ∃ c, spMoreE zs x1 x2 x3 = c := ⟨_, rfl⟩
                by_cases hc0 : c = 0
                ·
                  subst hc0
                  have hzl := vp_len hz16 hc
                  obtain ⟨ns, hns⟩ : ∃ ns, spDrop zs x3 ++ [(x1, x2)] = ns := ⟨_, rfl⟩
                  rw [hns] at hzl
                  have RS := hide (rSpend_okN hns hz16 hc _ _ HA0.out.1)
                  have VS : Hid (∀ W, VAt W w.heap.size zs ks → Calls Tryd.prog 25 #[.pointer (some ⟨w.heap.size, 0, none⟩), .int .i64 x1, .int .i64 x2, .int .i64 x3] W fun e w' => e = .returned .nilIface ∧ VAt w' w.heap.size ns ks ∧ Kept [w.heap.size] W w') := hide (fun W h => vltSpend_okN hns hc hz16 _ W h)
                  clear hns hc
                  go_wp2_with fail
                  refine RS.out.mono ?_
                  rintro e w1 ⟨va', rfl, hown, hb1⟩
                  have HAN := hide (own_vr hown (Nat.le_trans hzl (by decide)) (show w.heap.size < _ by omega))
                  obtain ⟨a9, c9, rfl⟩ := own_sl hown
                  clear hown
                  have hB1 : Below w.heap.size w w1 := hB0.trans (hb1.mono hB0.size)
                  have HA1 := hide (HA0.out.below hb1)
                  have HK1 := hide (HK0.out.below hb1)
                  have HV1 := hide (HV0.out.below hb1)
                  have O1 := hide (HO0.out.below hb1)
                  have HO1 := O1
                  have z1 := HO1.out.lt
                  clear O1 hb1 c0_0 c0_1 c0_2 c0_3
                  have c1_0 := HO1.out.cell (i := 0) rfl
                  have c1_1 := HO1.out.cell (i := 1) rfl
                  have c1_2 := HO1.out.cell (i := 2) rfl
                  have c1_3 := HO1.out.cell (i := 3) rfl
                  have HA1 := HAN
                  clear HAN
                  go_wp2_with fail
                  refine (VS.out _ HV1.out).mono ?_
                  rintro e w2 ⟨rfl, hV2, hk2⟩
                  have hB2 : Below w.heap.size w w2 := hB1.trans (hk2.below hB1.size (fun x hx => by simp at hx; omega))
                  have HA2 := hide (HA1.out.kept hk2)
                  have HK2 := hide (HK1.out.kept hk2)
                  have HV2 := hide hV2
                  clear hV2
                  have O2 := hide (Kept.obj hk2 HO1.out (by simp; omega))
                  have HO2 := O2
                  have z2 := HO2.out.lt
                  clear O2 hk2 c1_0 c1_1 c1_2 c1_3
                  have c2_0 := HO2.out.cell (i := 0) rfl
                  have c2_1 := HO2.out.cell (i := 1) rfl
                  have c2_2 := HO2.out.cell (i := 2) rfl
                  have c2_3 := HO2.out.cell (i := 3) rfl
                  go_wp2_with fail
                  refine (error_any (0) (0) _ (hE.below (B := w.heap.size) (by assumption) hE.pos)).mono ?_
                  rintro e w3 ⟨rfl, hb3⟩
                  have hB3 : Below w.heap.size w w3 := hB2.trans (hb3.mono hB2.size)
                  have HA3 := hide (HA2.out.below hb3)
                  have HK3 := hide (HK2.out.below hb3)
                  have HV3 := hide (HV2.out.below hb3)
                  have O3 := hide (HO2.out.below hb3)
                  have HO3 := O3
                  have z3 := HO3.out.lt
                  clear O3 hb3 c2_0 c2_1 c2_2 c2_3
                  have c3_0 := HO3.out.cell (i := 0) rfl
                  have c3_1 := HO3.out.cell (i := 1) rfl
                  have c3_2 := HO3.out.cell (i := 2) rfl
                  have c3_3 := HO3.out.cell (i := 3) rfl
                  cases hin : inB x1
                  ·
                    go_wp2_with fail
                    refine (rIn_eq hin _).mono ?_
                    rintro e w500 ⟨rfl, rfl⟩
                    go_wp2_with fail
                    refine (vltHas (vltN_out hin) _ _ HV3.out).mono ?_
                    rintro e w4 ⟨rfl, hb4⟩
                    have hB4 : Below w.heap.size w w4 := hB3.trans (hb4.mono hB3.size)
                    have HA4 := hide (HA3.out.below hb4)
                    have HK4 := hide (HK3.out.below hb4)
                    have HV4 := hide (HV3.out.below hb4)
                    have O4 := hide (HO3.out.below hb4)
                    have HO4 := O4
                    have z4 := HO4.out.lt
                    clear O4 hb4 c3_0 c3_1 c3_2 c3_3
                    have c4_0 := HO4.out.cell (i := 0) rfl
                    have c4_1 := HO4.out.cell (i := 1) rfl
                    have c4_2 := HO4.out.cell (i := 2) rfl
                    have c4_3 := HO4.out.cell (i := 3) rfl
                    go_wp2_with fail
                    refine (vltSure (vltN_out hin) _ _ HV4.out).mono ?_
                    rintro e w5 ⟨rfl, hb5⟩
                    have hB5 : Below w.heap.size w w5 := hB4.trans (hb5.mono hB4.size)
                    have HA5 := hide (HA4.out.below hb5)
                    have HK5 := hide (HK4.out.below hb5)
                    have HV5 := hide (HV4.out.below hb5)
                    have O5 := hide (HO4.out.below hb5)
                    have HO5 := O5
                    have z5 := HO5.out.lt
                    clear O5 hb5 c4_0 c4_1 c4_2 c4_3
                    have c5_0 := HO5.out.cell (i := 0) rfl
                    have c5_1 := HO5.out.cell (i := 1) rfl
                    have c5_2 := HO5.out.cell (i := 2) rfl
                    have c5_3 := HO5.out.cell (i := 3) rfl
                    go_wp2_with fail
                    refine (error_any (1) (1) _ (hE.below (B := w.heap.size) (by assumption) hE.pos)).mono ?_
                    rintro e w6 ⟨rfl, hb6⟩
                    have hB6 : Below w.heap.size w w6 := hB5.trans (hb6.mono hB5.size)
                    have HA6 := hide (HA5.out.below hb6)
                    have HK6 := hide (HK5.out.below hb6)
                    have HV6 := hide (HV5.out.below hb6)
                    have O6 := hide (HO5.out.below hb6)
                    have HO6 := O6
                    have z6 := HO6.out.lt
                    clear O6 hb6 c5_0 c5_1 c5_2 c5_3
                    have c6_0 := HO6.out.cell (i := 0) rfl
                    have c6_1 := HO6.out.cell (i := 1) rfl
                    have c6_2 := HO6.out.cell (i := 2) rfl
                    have c6_3 := HO6.out.cell (i := 3) rfl
                    go_wp2_with fail
                    refine (error_any (1) (1) _ (hE.below (B := w.heap.size) (by assumption) hE.pos)).mono ?_
                    rintro e w7 ⟨rfl, hb7⟩
                    have hB7 : Below w.heap.size w w7 := hB6.trans (hb7.mono hB6.size)
                    have HA7 := hide (HA6.out.below hb7)
                    have HK7 := hide (HK6.out.below hb7)
                    have HV7 := hide (HV6.out.below hb7)
                    have O7 := hide (HO6.out.below hb7)
                    have HO7 := O7
                    have z7 := HO7.out.lt
                    clear O7 hb7 c6_0 c6_1 c6_2 c6_3
                    have c7_0 := HO7.out.cell (i := 0) rfl
                    have c7_1 := HO7.out.cell (i := 1) rfl
                    have c7_2 := HO7.out.cell (i := 2) rfl
                    have c7_3 := HO7.out.cell (i := 3) rfl
                    go_wp2
                    go_roundw
                    case rel => exact ⟨k + 1, _, _, by go_num, by omega, by omega, hzl, hk16, HA7.out, HK7.out, HV7.out, hB7⟩
                    case measure => simp [intOf] <;> omega
                  ·
                    go_wp2_with fail
                    refine (rIn_eq hin _).mono ?_
                    rintro e w500 ⟨rfl, rfl⟩
                    go_wp2_with fail
                    refine (vltHas (vltN_in hin) _ _ HV3.out).mono ?_
                    rintro e w4 ⟨rfl, hb4⟩
                    have hB4 : Below w.heap.size w w4 := hB3.trans (hb4.mono hB3.size)
                    have HA4 := hide (HA3.out.below hb4)
                    have HK4 := hide (HK3.out.below hb4)
                    have HV4 := hide (HV3.out.below hb4)
                    have O4 := hide (HO3.out.below hb4)
                    have HO4 := O4
                    have z4 := HO4.out.lt
                    clear O4 hb4 c3_0 c3_1 c3_2 c3_3
                    have c4_0 := HO4.out.cell (i := 0) rfl
                    have c4_1 := HO4.out.cell (i := 1) rfl
                    have c4_2 := HO4.out.cell (i := 2) rfl
                    have c4_3 := HO4.out.cell (i := 3) rfl
                    go_wp2_with fail
                    refine (vltSure (vltN_in hin) _ _ HV4.out).mono ?_
                    rintro e w5 ⟨rfl, hb5⟩
                    have hB5 : Below w.heap.size w w5 := hB4.trans (hb5.mono hB4.size)
                    have HA5 := hide (HA4.out.below hb5)
                    have HK5 := hide (HK4.out.below hb5)
                    have HV5 := hide (HV4.out.below hb5)
                    have O5 := hide (HO4.out.below hb5)
                    have HO5 := O5
                    have z5 := HO5.out.lt
                    clear O5 hb5 c4_0 c4_1 c4_2 c4_3
                    have c5_0 := HO5.out.cell (i := 0) rfl
                    have c5_1 := HO5.out.cell (i := 1) rfl
                    have c5_2 := HO5.out.cell (i := 2) rfl
                    have c5_3 := HO5.out.cell (i := 3) rfl
                    go_wp2_with fail
                    refine (error_any (0) (0) _ (hE.below (B := w.heap.size) (by assumption) hE.pos)).mono ?_
                    rintro e w6 ⟨rfl, hb6⟩
                    have hB6 : Below w.heap.size w w6 := hB5.trans (hb6.mono hB5.size)
                    have HA6 := hide (HA5.out.below hb6)
                    have HK6 := hide (HK5.out.below hb6)
                    have HV6 := hide (HV5.out.below hb6)
                    have O6 := hide (HO5.out.below hb6)
                    have HO6 := O6
                    have z6 := HO6.out.lt
                    clear O6 hb6 c5_0 c5_1 c5_2 c5_3
                    have c6_0 := HO6.out.cell (i := 0) rfl
                    have c6_1 := HO6.out.cell (i := 1) rfl
                    have c6_2 := HO6.out.cell (i := 2) rfl
                    have c6_3 := HO6.out.cell (i := 3) rfl
                    go_wp2_with fail
                    refine (rHas _ _ _ _ HA6.out.1).mono ?_
                    rintro e w500 ⟨rfl, rfl⟩
                    go_wp2_with fail
                    refine (error_any (0) (0) _ (hE.below (B := w.heap.size) (by assumption) hE.pos)).mono ?_
                    rintro e w7 ⟨rfl, hb7⟩
                    have hB7 : Below w.heap.size w w7 := hB6.trans (hb7.mono hB6.size)
                    have HA7 := hide (HA6.out.below hb7)
                    have HK7 := hide (HK6.out.below hb7)
                    have HV7 := hide (HV6.out.below hb7)
                    have O7 := hide (HO6.out.below hb7)
                    have HO7 := O7
                    have z7 := HO7.out.lt
                    clear O7 hb7 c6_0 c6_1 c6_2 c6_3
                    have c7_0 := HO7.out.cell (i := 0) rfl
                    have c7_1 := HO7.out.cell (i := 1) rfl
                    have c7_2 := HO7.out.cell (i := 2) rfl
                    have c7_3 := HO7.out.cell (i := 3) rfl
                    go_wp2_with fail
                    refine (rHas _ _ _ _ HK7.out.1).mono ?_
                    rintro e w500 ⟨rfl, rfl⟩
                    go_wp2
                    go_roundw
                    case rel => exact ⟨k + 1, _, _, by go_num, by omega, by omega, hzl, hk16, HA7.out, HK7.out, HV7.out, hB7⟩
                    case measure => simp [intOf] <;> omega
                ·
                  have hc1 : (c == 0) = false := beq_eq_false_iff_ne.2 hc0
                  go_wp2_with fail
                  refine (rSpend_bad hz16 hc hc0 _ _ HA0.out.1).mono ?_
                  rintro e w1 ⟨rfl, hb1⟩
                  have hB1 : Below w.heap.size w w1 := hB0.trans (hb1.mono hB0.size)
                  have HA1 := hide (HA0.out.below hb1)
                  have HK1 := hide (HK0.out.below hb1)
                  have HV1 := hide (HV0.out.below hb1)
                  have O1 := hide (HO0.out.below hb1)
                  have HO1 := O1
                  have z1 := HO1.out.lt
                  clear O1 hb1 c0_0 c0_1 c0_2 c0_3
                  have c1_0 := HO1.out.cell (i := 0) rfl
                  have c1_1 := HO1.out.cell (i := 1) rfl
                  have c1_2 := HO1.out.cell (i := 2) rfl
                  have c1_3 := HO1.out.cell (i := 3) rfl
                  go_wp2_with fail
                  refine (vltSpend_bad hc hc0 _ _ HV1.out).mono ?_
                  rintro e w2 ⟨rfl, hV2, hk2⟩
                  have hB2 : Below w.heap.size w w2 := hB1.trans (hk2.below hB1.size (fun x hx => by simp at hx; omega))
                  have HA2 := hide (HA1.out.kept hk2)
                  have HK2 := hide (HK1.out.kept hk2)
                  have HV2 := hide hV2
                  clear hV2
                  have O2 := hide (Kept.obj hk2 HO1.out (by simp; omega))
                  have HO2 := O2
                  have z2 := HO2.out.lt
                  clear O2 hk2 c1_0 c1_1 c1_2 c1_3
                  have c2_0 := HO2.out.cell (i := 0) rfl
                  have c2_1 := HO2.out.cell (i := 1) rfl
                  have c2_2 := HO2.out.cell (i := 2) rfl
                  have c2_3 := HO2.out.cell (i := 3) rfl
                  go_wp2_with fail
                  refine (error_any (c) (c) _ (hE.below (B := w.heap.size) (by assumption) hE.pos)).mono ?_
                  rintro e w3 ⟨rfl, hb3⟩
                  have hB3 : Below w.heap.size w w3 := hB2.trans (hb3.mono hB2.size)
                  have HA3 := hide (HA2.out.below hb3)
                  have HK3 := hide (HK2.out.below hb3)
                  have HV3 := hide (HV2.out.below hb3)
                  have O3 := hide (HO2.out.below hb3)
                  have HO3 := O3
                  have z3 := HO3.out.lt
                  clear O3 hb3 c2_0 c2_1 c2_2 c2_3
                  have c3_0 := HO3.out.cell (i := 0) rfl
                  have c3_1 := HO3.out.cell (i := 1) rfl
                  have c3_2 := HO3.out.cell (i := 2) rfl
                  have c3_3 := HO3.out.cell (i := 3) rfl
                  cases hin : inB x1
                  ·
                    go_wp2_with fail
                    refine (rIn_eq hin _).mono ?_
                    rintro e w500 ⟨rfl, rfl⟩
                    go_wp2_with fail
                    refine (vltHas (vltN_out hin) _ _ HV3.out).mono ?_
                    rintro e w4 ⟨rfl, hb4⟩
                    have hB4 : Below w.heap.size w w4 := hB3.trans (hb4.mono hB3.size)
                    have HA4 := hide (HA3.out.below hb4)
                    have HK4 := hide (HK3.out.below hb4)
                    have HV4 := hide (HV3.out.below hb4)
                    have O4 := hide (HO3.out.below hb4)
                    have HO4 := O4
                    have z4 := HO4.out.lt
                    clear O4 hb4 c3_0 c3_1 c3_2 c3_3
                    have c4_0 := HO4.out.cell (i := 0) rfl
                    have c4_1 := HO4.out.cell (i := 1) rfl
                    have c4_2 := HO4.out.cell (i := 2) rfl
                    have c4_3 := HO4.out.cell (i := 3) rfl
                    go_wp2_with fail
                    refine (vltSure (vltN_out hin) _ _ HV4.out).mono ?_
                    rintro e w5 ⟨rfl, hb5⟩
                    have hB5 : Below w.heap.size w w5 := hB4.trans (hb5.mono hB4.size)
                    have HA5 := hide (HA4.out.below hb5)
                    have HK5 := hide (HK4.out.below hb5)
                    have HV5 := hide (HV4.out.below hb5)
                    have O5 := hide (HO4.out.below hb5)
                    have HO5 := O5
                    have z5 := HO5.out.lt
                    clear O5 hb5 c4_0 c4_1 c4_2 c4_3
                    have c5_0 := HO5.out.cell (i := 0) rfl
                    have c5_1 := HO5.out.cell (i := 1) rfl
                    have c5_2 := HO5.out.cell (i := 2) rfl
                    have c5_3 := HO5.out.cell (i := 3) rfl
                    go_wp2_with fail
                    refine (error_any (1) (1) _ (hE.below (B := w.heap.size) (by assumption) hE.pos)).mono ?_
                    rintro e w6 ⟨rfl, hb6⟩
                    have hB6 : Below w.heap.size w w6 := hB5.trans (hb6.mono hB5.size)
                    have HA6 := hide (HA5.out.below hb6)
                    have HK6 := hide (HK5.out.below hb6)
                    have HV6 := hide (HV5.out.below hb6)
                    have O6 := hide (HO5.out.below hb6)
                    have HO6 := O6
                    have z6 := HO6.out.lt
                    clear O6 hb6 c5_0 c5_1 c5_2 c5_3
                    have c6_0 := HO6.out.cell (i := 0) rfl
                    have c6_1 := HO6.out.cell (i := 1) rfl
                    have c6_2 := HO6.out.cell (i := 2) rfl
                    have c6_3 := HO6.out.cell (i := 3) rfl
                    go_wp2_with fail
                    refine (error_any (1) (1) _ (hE.below (B := w.heap.size) (by assumption) hE.pos)).mono ?_
                    rintro e w7 ⟨rfl, hb7⟩
                    have hB7 : Below w.heap.size w w7 := hB6.trans (hb7.mono hB6.size)
                    have HA7 := hide (HA6.out.below hb7)
                    have HK7 := hide (HK6.out.below hb7)
                    have HV7 := hide (HV6.out.below hb7)
                    have O7 := hide (HO6.out.below hb7)
                    have HO7 := O7
                    have z7 := HO7.out.lt
                    clear O7 hb7 c6_0 c6_1 c6_2 c6_3
                    have c7_0 := HO7.out.cell (i := 0) rfl
                    have c7_1 := HO7.out.cell (i := 1) rfl
                    have c7_2 := HO7.out.cell (i := 2) rfl
                    have c7_3 := HO7.out.cell (i := 3) rfl
                    go_wp2
                    go_roundw
                    case rel => exact ⟨k + 1, _, _, by go_num, by omega, by omega, hz16, hk16, HA7.out, HK7.out, HV7.out, hB7⟩
                    case measure => simp [intOf] <;> omega
                  ·
                    go_wp2_with fail
                    refine (rIn_eq hin _).mono ?_
                    rintro e w500 ⟨rfl, rfl⟩
                    go_wp2_with fail
                    refine (vltHas (vltN_in hin) _ _ HV3.out).mono ?_
                    rintro e w4 ⟨rfl, hb4⟩
                    have hB4 : Below w.heap.size w w4 := hB3.trans (hb4.mono hB3.size)
                    have HA4 := hide (HA3.out.below hb4)
                    have HK4 := hide (HK3.out.below hb4)
                    have HV4 := hide (HV3.out.below hb4)
                    have O4 := hide (HO3.out.below hb4)
                    have HO4 := O4
                    have z4 := HO4.out.lt
                    clear O4 hb4 c3_0 c3_1 c3_2 c3_3
                    have c4_0 := HO4.out.cell (i := 0) rfl
                    have c4_1 := HO4.out.cell (i := 1) rfl
                    have c4_2 := HO4.out.cell (i := 2) rfl
                    have c4_3 := HO4.out.cell (i := 3) rfl
                    go_wp2_with fail
                    refine (vltSure (vltN_in hin) _ _ HV4.out).mono ?_
                    rintro e w5 ⟨rfl, hb5⟩
                    have hB5 : Below w.heap.size w w5 := hB4.trans (hb5.mono hB4.size)
                    have HA5 := hide (HA4.out.below hb5)
                    have HK5 := hide (HK4.out.below hb5)
                    have HV5 := hide (HV4.out.below hb5)
                    have O5 := hide (HO4.out.below hb5)
                    have HO5 := O5
                    have z5 := HO5.out.lt
                    clear O5 hb5 c4_0 c4_1 c4_2 c4_3
                    have c5_0 := HO5.out.cell (i := 0) rfl
                    have c5_1 := HO5.out.cell (i := 1) rfl
                    have c5_2 := HO5.out.cell (i := 2) rfl
                    have c5_3 := HO5.out.cell (i := 3) rfl
                    go_wp2_with fail
                    refine (error_any (0) (0) _ (hE.below (B := w.heap.size) (by assumption) hE.pos)).mono ?_
                    rintro e w6 ⟨rfl, hb6⟩
                    have hB6 : Below w.heap.size w w6 := hB5.trans (hb6.mono hB5.size)
                    have HA6 := hide (HA5.out.below hb6)
                    have HK6 := hide (HK5.out.below hb6)
                    have HV6 := hide (HV5.out.below hb6)
                    have O6 := hide (HO5.out.below hb6)
                    have HO6 := O6
                    have z6 := HO6.out.lt
                    clear O6 hb6 c5_0 c5_1 c5_2 c5_3
                    have c6_0 := HO6.out.cell (i := 0) rfl
                    have c6_1 := HO6.out.cell (i := 1) rfl
                    have c6_2 := HO6.out.cell (i := 2) rfl
                    have c6_3 := HO6.out.cell (i := 3) rfl
                    go_wp2_with fail
                    refine (rHas _ _ _ _ HA6.out.1).mono ?_
                    rintro e w500 ⟨rfl, rfl⟩
                    go_wp2_with fail
                    refine (error_any (0) (0) _ (hE.below (B := w.heap.size) (by assumption) hE.pos)).mono ?_
                    rintro e w7 ⟨rfl, hb7⟩
                    have hB7 : Below w.heap.size w w7 := hB6.trans (hb7.mono hB6.size)
                    have HA7 := hide (HA6.out.below hb7)
                    have HK7 := hide (HK6.out.below hb7)
                    have HV7 := hide (HV6.out.below hb7)
                    have O7 := hide (HO6.out.below hb7)
                    have HO7 := O7
                    have z7 := HO7.out.lt
                    clear O7 hb7 c6_0 c6_1 c6_2 c6_3
                    have c7_0 := HO7.out.cell (i := 0) rfl
                    have c7_1 := HO7.out.cell (i := 1) rfl
                    have c7_2 := HO7.out.cell (i := 2) rfl
                    have c7_3 := HO7.out.cell (i := 3) rfl
                    go_wp2_with fail
                    refine (rHas _ _ _ _ HK7.out.1).mono ?_
                    rintro e w500 ⟨rfl, rfl⟩
                    go_wp2
                    go_roundw
                    case rel => exact ⟨k + 1, _, _, by go_num, by omega, by omega, hz16, hk16, HA7.out, HK7.out, HV7.out, hB7⟩
                    case measure => simp [intOf] <;> omega
      · go_wp2
        go_ret
        exact ⟨rfl, hb⟩
    · go_wp2
      go_ret
      exact ⟨rfl, hb⟩
end Go.Proofs.YtfehnfbmlomccaaDoor
