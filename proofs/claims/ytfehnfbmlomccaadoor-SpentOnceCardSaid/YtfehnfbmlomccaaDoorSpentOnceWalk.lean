/- The walk of SpentOnce. -/
import Derived.Test.YtfehnfbmlomccaaDoorSpOnce
namespace Go.Proofs.YtfehnfbmlomccaaDoor
open Go.RowKit

theorem so_e1 : spMoreE [] 5 10 3 = 0 := by decide
theorem so_e2 : spMoreE [(5, 10)] 5 20 10 = 7 := by decide
theorem so_e3 : spMoreE [(5, 10)] 5 20 11 = 0 := by decide
theorem so_d1 : spDrop [] 3 ++ [((5 : Int), (10 : Int))] = [(5, 10)] := by decide
theorem so_d3 : spDrop [((5 : Int), (10 : Int))] 11 ++ [((5 : Int), (20 : Int))] = [(5, 20)] := by decide
theorem so_s1 : spE [((5 : Int), (10 : Int))] = 0 := by decide

set_option maxRecDepth 100000 in
set_option maxHeartbeats 4000000 in
theorem soBad (w : World) (v : Value) (n u now : Int) (a : Option Addr) (len cap : Nat) (hE : ErrT w) {c : Int} (h0 : c ≠ 0) (hS : ∀ W, Below w.heap.size w W → Calls Tryd.prog 32 #[v, .int .i64 n, .int .i64 u, .int .i64 now] W fun e w' => e = .returned (.tuple #[.slice none 0 0, errV c]) ∧ Below W.heap.size W w') :
    Calls Tryd.prog 8 #[v, .int .i64 n, .int .i64 u, .int .i64 now, .slice a len cap] w fun e w' => e = .returned (.bool true) ∧ Below w.heap.size w w' := by
  have t1 : (c != 0) = true := bne_iff_ne.2 h0
  have HSS := hide hS
  clear hS h0
  have hB0 : Below w.heap.size w w := Below.refl _ _
  have S1 := hide (spSpend_okS so_d1 (by decide) (by decide) so_e1 (.slice none 0 0) w (psl_0 w))
  go_enter Tryd.func8, Tryd.ntmps8
  go_wp2_with fail
  refine S1.out.mono ?_
  rintro e w1 ⟨v1, rfl, hp1, hb1⟩
  have hB1 : Below w.heap.size w w1 := hb1
  have P1 := hide hp1
  clear hp1
  go_wp2_with fail
  refine (spSpend_7 so_s1 so_e2 _ _ P1.out).mono ?_
  rintro e w2 ⟨rfl, hb2⟩
  have hB2 : Below w.heap.size w w2 := hB1.trans (hb2.mono hB1.size)
  have P2 := hide (P1.out.below hb2)
  go_wp2_with fail
  refine (spSpend_okS so_d3 (by decide) so_s1 so_e3 _ _ P2.out).mono ?_
  rintro e w3 ⟨v3, rfl, hp3, hb3⟩
  have hB3 : Below w.heap.size w w3 := hB2.trans (hb3.mono hB2.size)
  obtain ⟨a3, c3, rfl⟩ := psl_form hp3
  clear hp3 hb1 hb2 hb3 P1 P2 S1
  go_wp2_with fail
  refine (error_any 7 7 _ (hE.below (B := w.heap.size) hB3 hE.pos)).mono ?_
  rintro e w4 ⟨rfl, hb4⟩
  have hB4 : Below w.heap.size w w4 := hB3.trans (hb4.mono hB3.size)
  clear hb4
  go_wp2_with fail
  refine (HSS.out _ hB4).mono ?_
  rintro e w5 ⟨rfl, hb5⟩
  have hB5 : Below w.heap.size w w5 := hB4.trans (hb5.mono hB4.size)
  go_wp2
  go_ret
  exact ⟨rfl, hB5⟩
set_option maxRecDepth 100000 in
set_option maxHeartbeats 16000000 in
theorem soGood (w : World) (v : Value) (n u now : Int) (a : Option Addr) (len cap : Nat) (hE : ErrT w) (hm : len ≤ maxLen) (zz : List (List Int)) (hr : MatRow w a len zz) {x0 : List (Int × Int)} (hv : PSl w v x0) (hx : spE x0 = 0) (h16 : x0.length ≤ 16) (hc : spMoreE x0 n u now = 0) :
    Calls Tryd.prog 8 #[v, .int .i64 n, .int .i64 u, .int .i64 now, .slice a len cap] w fun e w' => e = .returned (.bool true) ∧ Below w.heap.size w w' := by
  obtain ⟨ns, hns⟩ : ∃ ns, spDrop x0 now ++ [(n, u)] = ns := ⟨_, rfl⟩
  have HI0 := hide (SOI.first hx hc hns)
  have HSS := hide (fun W (hW : Below w.heap.size w W) => spSpend_okS hns h16 hx hc v W (hv.below hW))
  have HR := hide hr.split
  unfold maxLen at hm
  have hw0 := hE.pos
  clear hr hv hx h16 hc hns
  have hB0 : Below w.heap.size w w := Below.refl _ _
  have S1 := hide (spSpend_okS so_d1 (by decide) (by decide) so_e1 (.slice none 0 0) w (psl_0 w))
  go_enter Tryd.func8, Tryd.ntmps8
  go_wp2_with fail
  refine S1.out.mono ?_
  rintro e w1 ⟨v1, rfl, hp1, hb1⟩
  have hB1 : Below w.heap.size w w1 := hb1
  have P1 := hide hp1
  clear hp1
  go_wp2_with fail
  refine (spSpend_7 so_s1 so_e2 _ _ P1.out).mono ?_
  rintro e w2 ⟨rfl, hb2⟩
  have hB2 : Below w.heap.size w w2 := hB1.trans (hb2.mono hB1.size)
  have P2 := hide (P1.out.below hb2)
  go_wp2_with fail
  refine (spSpend_okS so_d3 (by decide) so_s1 so_e3 _ _ P2.out).mono ?_
  rintro e w3 ⟨v3, rfl, hp3, hb3⟩
  have hB3 : Below w.heap.size w w3 := hB2.trans (hb3.mono hB2.size)
  obtain ⟨a3, c3, rfl⟩ := psl_form hp3
  clear hp3 hb1 hb2 hb3 P1 P2 S1
  go_wp2_with fail
  refine (error_any 7 7 _ (hE.below (B := w.heap.size) hB3 hE.pos)).mono ?_
  rintro e w4 ⟨rfl, hb4⟩
  have hB4 : Below w.heap.size w w4 := hB3.trans (hb4.mono hB3.size)
  clear hb4
  go_wp2_with fail
  refine (HSS.out _ hB4).mono ?_
  rintro e w5 ⟨v5, rfl, hp5, hb5⟩
  have hB5 : Below w.heap.size w w5 := hB4.trans (hb5.mono hB4.size)
  have P5 := hide hp5
  clear hp5 hb5 hB0 hB1 hB2 hB3 hB4 HSS
  go_wp2_with fail
  go_loopw [17, 19, 20] (fun vx va vi wr => ∃ (k : Nat) (at_ : Int) (zs : List (Int × Int)), va = .int .i64 at_ ∧ vi = .int .i64 k ∧ k ≤ len ∧ k ≤ 30 ∧ SOI n u at_ zs ∧ PSl wr vx zs ∧ Below w.heap.size w wr) (fun _ _ vi _ => 100 - (intOf vi).toNat)
  case atStart => exact ⟨0, now, ns, rfl, rfl, by omega, by omega, HI0.out, P5.out, hB5⟩
  case round =>
    obtain ⟨k, at_, zs, rfl, rfl, hk, hk3, hI, hpx, hb⟩ := hrel
    obtain ⟨w9, rfl⟩ : ∃ x, x = wr := ⟨wr, rfl⟩
    have HI := hide hI
    have HX := hide hpx
    have hat := hI.2.2.2.1
    clear hI hpx HI0 P5
    by_cases h1 : k < len
    · by_cases h2 : k < 30
      ·
        obtain ⟨b, off, AA, CC, ha, hlt, hcl, hCk, hCk2, hrow⟩ : ∃ b off, ∃ (AA : Option Addr) (CC : Nat), a = some ⟨b, off, none⟩ ∧ b < w.heap.size ∧ w.cell? ⟨b, off + k, none⟩ = some (.slice AA (zz.getD k []).length CC) ∧ (zz.getD k []).length ≤ CC ∧ CC ≤ maxLen ∧ IntRow w AA (zz.getD k []).length (zz.getD k []) := by
          rcases HR.out with h | ⟨b, off, A, C, h3, h4, h5, h6, h7, h8⟩
          · omega
          · exact ⟨b, off, A k, C k, h3, h4, h7 k h1, (h8 k h1).1, (h8 k h1).2.1, (h8 k h1).2.2⟩
        subst ha
        obtain ⟨zk, hzk⟩ : ∃ zk, zk = zz.getD k [] := ⟨_, rfl⟩
        rw [← hzk] at hcl hCk hrow
        clear hzk
        unfold maxLen at hCk2
        have hcell := (hb.cell (p := ⟨b, off + k, none⟩) hlt).trans hcl
        by_cases h3 : zk.length = 3
        ·
          obtain ⟨p0, p1, p2, rfl⟩ : ∃ p0 p1 p2, zk = [p0, p1, p2] := by
            match zk, h3 with
            | [p0, p1, p2], _ => exact ⟨p0, p1, p2, rfl⟩
          simp only [List.length_cons, List.length_nil, Nat.zero_add] at hcl hCk hcell hrow
          obtain ⟨b2, off2, rfl, hlt2, q0, q1, q2⟩ : ∃ b2 off2, AA = some ⟨b2, off2, none⟩ ∧ b2 < w.heap.size ∧ w.cell? ⟨b2, off2, none⟩ = some (.int .i64 p0) ∧ w.cell? ⟨b2, off2 + 1, none⟩ = some (.int .i64 p1) ∧ w.cell? ⟨b2, off2 + 2, none⟩ = some (.int .i64 p2) := by
            rcases hrow.split with h | ⟨b2, off2, h3, h4, _, _, h5⟩
            · omega
            · exact ⟨b2, off2, h3, h4, by simpa using h5 0 (by decide), by simpa using h5 1 (by decide), by simpa using h5 2 (by decide)⟩
          have r0 := (hb.cell (p := ⟨b2, off2, none⟩) hlt2).trans q0
          have r1 := (hb.cell (p := ⟨b2, off2 + 1, none⟩) hlt2).trans q1
          have r2 := (hb.cell (p := ⟨b2, off2 + 2, none⟩) hlt2).trans q2
          clear hcl hrow q0 q1 q2 h3
          by_cases h5 : p2 < at_
          ·
            clear r0 r1
            go_wp2
            go_roundw
            case rel => exact ⟨k + 1, at_, zs, rfl, by go_num, by omega, by omega, HI.out, HX.out, hb⟩
            case measure => simp [intOf] <;> omega
          ·
            have y2 : b < w9.heap.size := by have := hb.size; omega
            have y3 : b2 < w9.heap.size := by have := hb.size; omega
            have HS : Hid (∀ w' : World, Below w9.heap.size w9 w' → w'.cell? ⟨b, off + k, none⟩ = some (.slice (some ⟨b2, off2, none⟩) 3 CC) ∧ w'.cell? ⟨b2, off2, none⟩ = some (.int .i64 p0) ∧ w'.cell? ⟨b2, off2 + 1, none⟩ = some (.int .i64 p1) ∧ w'.cell? ⟨b2, off2 + 2, none⟩ = some (.int .i64 p2)) :=
              fun w' hB => ⟨(hB.cell (p := ⟨b, off + k, none⟩) y2).trans hcell, (hB.cell (p := ⟨b2, off2, none⟩) y3).trans r0, (hB.cell (p := ⟨b2, off2 + 1, none⟩) y3).trans r1, (hB.cell (p := ⟨b2, off2 + 2, none⟩) y3).trans r2⟩
            obtain ⟨c, hc⟩ : ∃ c, spMoreE zs p0 p1 p2 = c := ⟨_, rfl⟩
            have hrr := Below.refl w9.heap.size w9
            by_cases hc0 : c = 0
            ·
              subst hc0
              obtain ⟨ms, hms⟩ : ∃ ms, spDrop zs p2 ++ [(p0, p1)] = ms := ⟨_, rfl⟩
              have TK := hide (fun W (hW : Below w9.heap.size w9 W) => spSpend_okS hms HI.out.2.1 HI.out.1 hc _ W (HX.out.below hW))
              have HC := hide hc
              have HMS := hide hms
              clear hc hms
              go_wp2_with fail
              go_region_held3 (fun w' => w'.cell? ⟨b, off + k, none⟩ = some (.slice (some ⟨b2, off2, none⟩) 3 CC) ∧ w'.cell? ⟨b2, off2, none⟩ = some (.int .i64 p0) ∧ w'.cell? ⟨b2, off2 + 1, none⟩ = some (.int .i64 p1) ∧ w'.cell? ⟨b2, off2 + 2, none⟩ = some (.int .i64 p2)) (first | exact HS.out _ (by assumption) | (refine HS.out _ ?_; go_grown) | go_keep)
                (first | (go_at_call 32; refine (TK.out _ (by go_grown)).mono ?_; rintro e5 w10 ⟨v5b, rfl, hp5, hb5⟩; have hw5 : Below w9.heap.size w9 w10 := Below.trans (by go_grown) (Below.mono hb5 (by first | omega | (simp; done) | (simp; omega))); have hz5 := hw5.size; have hs5 := hb5.size; (try simp at hs5); obtain ⟨c5, d5⟩ := bcell hb5))
              clear hb5 c5 d5 hs5
              have hcell5 := (HS.out _ hw5).1
              obtain ⟨s0, s1, s2⟩ := (HS.out _ hw5).2
              have hb9 : Below w.heap.size w w10 := hb.trans (hw5.mono hb.size)
              have P10 := hide hp5
              have HE := hide (spE_more HI.out.1 HC.out HMS.out)
              clear HS hw5 hp5 TK s0 s1 hcell r0 r1 r2 hrr
              by_cases h6 : u < p2
              ·
                have HUU := hide HI.out.2.2.2.2.2.2
                by_cases hu9 : u = 100000
                ·
                  subst hu9
                  go_wp2_with fail
                  refine (spDrop_bad (now := 100001) HE.out.1 (by decide) _ _ (P10.out)).mono ?_
                  rintro e y1 ⟨rfl, hby1⟩
                  have hY1 : Below w.heap.size w y1 := (hb9).trans (hby1.mono (hb9).size)
                  clear hby1
                  go_wp2_with fail
                  refine (error_any 1 1 _ (hE.below (B := w.heap.size) hY1 hE.pos)).mono ?_
                  rintro e y2 ⟨rfl, hby2⟩
                  have hY2 : Below w.heap.size w y2 := hY1.trans (hby2.mono hY1.size)
                  go_wp2
                  go_ret
                  exact ⟨rfl, hY2⟩
                ·
                  have hu8 : (u == 100000) = false := beq_eq_false_iff_ne.2 hu9
                  have htu : tmB (u + 1) = true := tmB_true.2 (by have := tmB_true.1 HUU.out; omega)
                  have hur := tmB_true.1 HUU.out
                  obtain ⟨ds, hds⟩ : ∃ ds, spDrop ms (u + 1) = ds := ⟨_, rfl⟩
                  have HD := hide hds
                  have SD := hide (spDropS hds HE.out.1 htu _ _ (P10.out))
                  clear hds htu hu9
                  go_wp2_with fail
                  refine SD.out.mono ?_
                  rintro e y1 ⟨vy, rfl, hpy, hby1⟩
                  have hY1 : Below w.heap.size w y1 := (hb9).trans (hby1.mono (hb9).size)
                  clear hby1 SD
                  by_cases hd0 : ds = []
                  ·
                    subst hd0
                    obtain ⟨a9, c9, rfl⟩ := psl_nil hpy
                    go_wp2
                    go_rounds 1
                    go_ret
                    exact ⟨rfl, hY1⟩
                  ·
                    obtain ⟨b9, o9, c9, rfl, hc9, hb9, hpc9⟩ := psl_some hpy hd0
                    have hl9 := hpy.1
                    have HAB := hide (spDrop_above HD.out)
                    obtain ⟨n9, hn9⟩ : ∃ n9, n9 = ds.length := ⟨_, rfl⟩
                    rw [← hn9] at hc9 hl9 ⊢
                    have Hn9 := hide hn9
                    have HPC := hide hpc9
                    clear hn9 hpc9 hpy hd0
                    go_wp2_with fail
                    go_loopw [29] (fun j ww => ∃ m : Nat, j = .int .i64 m ∧ m ≤ n9 ∧ ww = y1) (fun j _ => 2000 - (intOf j).toNat)
                    case atStart => exact ⟨0, rfl, by omega, rfl⟩
                    case round =>
                      obtain ⟨m, rfl, hm, rfl⟩ := hrel
                      by_cases hlt9 : m < n9
                      ·
                        have hmz : m < ds.length := by rw [← Hn9.out]; exact hlt9
                        obtain ⟨p0, p1⟩ := HPC.out m hmz
                        have hab := HAB.out m hmz
                        generalize ds.getD m (0, 0) = y at p0 p1 hab
                        obtain ⟨yn, yu⟩ := y
                        simp only at p0 p1 hab
                        clear hmz
                        go_wp2
                        go_roundw
                        case rel => exact ⟨m + 1, by go_num, by omega, by first | rfl | trivial⟩
                        case measure => simp [intOf] <;> omega
                      ·
                        obtain rfl : m = n9 := by omega
                        go_wp2
                        go_ret
                        exact ⟨rfl, hY1⟩
              ·
                have HI2 := hide (HI.out.step HC.out HMS.out (by omega))
                clear HI HX HE
                go_wp2_with fail
                refine (spHas_in HI2.out.1 HI2.out.2.2.2.2.2.1 HI2.out.has _ _ P10.out).mono ?_
                rintro e w11 ⟨rfl, hb11⟩
                have hB11 : Below w.heap.size w w11 := hb9.trans (hb11.mono hb9.size)
                have P11 := hide (P10.out.below hb11)
                go_wp2_with fail
                refine (spSpend_7 HI2.out.1 HI2.out.again _ _ P11.out).mono ?_
                rintro e w12 ⟨rfl, hb12⟩
                have hB12 : Below w.heap.size w w12 := hB11.trans (hb12.mono hB11.size)
                have P12 := hide (P11.out.below hb12)
                go_wp2_with fail
                refine (error_any 7 7 _ (hE.below (B := w.heap.size) hB12 hE.pos)).mono ?_
                rintro e w13 ⟨rfl, hb13⟩
                have hB13 : Below w.heap.size w w13 := hB12.trans (hb13.mono hB12.size)
                have P13 := hide (P12.out.below hb13)
                go_wp2_with fail
                refine (spCheck0 HI2.out.1 _ _ P13.out).mono ?_
                rintro e w14 ⟨rfl, hb14⟩
                have hB14 : Below w.heap.size w w14 := hB13.trans (hb14.mono hB13.size)
                have P14 := hide (P13.out.below hb14)
                clear hb11 hb12 hb13 hb14 P11 P12 P13
                go_wp2
                go_roundw
                case rel => exact ⟨k + 1, p2, ms, rfl, by go_num, by omega, by omega, HI2.out, P14.out, hB14⟩
                case measure => simp [intOf] <;> omega
            ·
              have t2 : (c == 0) = false := beq_eq_false_iff_ne.2 hc0
              have TK := hide (fun W (hW : Below w9.heap.size w9 W) => spSpend_bad HI.out.1 hc hc0 _ W (HX.out.below hW))
              clear hc hc0
              go_wp2_with fail
              go_region_held3 (fun w' => w'.cell? ⟨b, off + k, none⟩ = some (.slice (some ⟨b2, off2, none⟩) 3 CC) ∧ w'.cell? ⟨b2, off2, none⟩ = some (.int .i64 p0) ∧ w'.cell? ⟨b2, off2 + 1, none⟩ = some (.int .i64 p1) ∧ w'.cell? ⟨b2, off2 + 2, none⟩ = some (.int .i64 p2)) (first | exact HS.out _ (by assumption) | (refine HS.out _ ?_; go_grown) | go_keep)
                (first | (go_at_call 32; refine (TK.out _ (by go_grown)).mono ?_; rintro e5 w10 ⟨rfl, hb5⟩; have hw5 : Below w9.heap.size w9 w10 := Below.trans (by go_grown) (Below.mono hb5 (by first | omega | (simp; done) | (simp; omega))); have hz5 := hw5.size; have hs5 := hb5.size; (try simp at hs5); obtain ⟨c5, d5⟩ := bcell hb5))
              clear hb5 c5 d5 hs5
              have hb9 : Below w.heap.size w w10 := hb.trans (hw5.mono hb.size)
              have P10 := hide (HX.out.below hw5)
              have HI2 := HI
              clear HS hw5 TK hcell r0 r1 r2 hrr HI HX
              go_wp2_with fail
              refine (spHas_in HI2.out.1 HI2.out.2.2.2.2.2.1 HI2.out.has _ _ P10.out).mono ?_
              rintro e w11 ⟨rfl, hb11⟩
              have hB11 : Below w.heap.size w w11 := hb9.trans (hb11.mono hb9.size)
              have P11 := hide (P10.out.below hb11)
              go_wp2_with fail
              refine (spSpend_7 HI2.out.1 HI2.out.again _ _ P11.out).mono ?_
              rintro e w12 ⟨rfl, hb12⟩
              have hB12 : Below w.heap.size w w12 := hB11.trans (hb12.mono hB11.size)
              have P12 := hide (P11.out.below hb12)
              go_wp2_with fail
              refine (error_any 7 7 _ (hE.below (B := w.heap.size) hB12 hE.pos)).mono ?_
              rintro e w13 ⟨rfl, hb13⟩
              have hB13 : Below w.heap.size w w13 := hB12.trans (hb13.mono hB12.size)
              have P13 := hide (P12.out.below hb13)
              go_wp2_with fail
              refine (spCheck0 HI2.out.1 _ _ P13.out).mono ?_
              rintro e w14 ⟨rfl, hb14⟩
              have hB14 : Below w.heap.size w w14 := hB13.trans (hb14.mono hB13.size)
              have P14 := hide (P13.out.below hb14)
              clear hb11 hb12 hb13 hb14 P11 P12 P13
              go_wp2
              go_roundw
              case rel => exact ⟨k + 1, at_, zs, rfl, by go_num, by omega, by omega, HI2.out, P14.out, hB14⟩
              case measure => simp [intOf] <;> omega
        ·
          have h3' : ((zk.length : Int) == 3) = false := beq_eq_false_iff_ne.2 (by omega)
          obtain ⟨nk, hnk⟩ : ∃ nk, nk = zk.length := ⟨_, rfl⟩
          rw [← hnk] at hcell h3' h3 hCk
          clear hrow hcl
          go_wp2
          go_roundw
          case rel => exact ⟨k + 1, at_, zs, rfl, by go_num, by omega, by omega, HI.out, HX.out, hb⟩
          case measure => simp [intOf] <;> omega
      ·
        by_cases hu9 : u = 100000
        ·
          subst hu9
          go_wp2_with fail
          refine (spDrop_bad (now := 100001) HI.out.1 (by decide) _ _ (HX.out)).mono ?_
          rintro e y1 ⟨rfl, hby1⟩
          have hY1 : Below w.heap.size w y1 := (hb).trans (hby1.mono (hb).size)
          clear hby1
          go_wp2_with fail
          refine (error_any 1 1 _ (hE.below (B := w.heap.size) hY1 hE.pos)).mono ?_
          rintro e y2 ⟨rfl, hby2⟩
          have hY2 : Below w.heap.size w y2 := hY1.trans (hby2.mono hY1.size)
          go_wp2
          go_ret
          exact ⟨rfl, hY2⟩
        ·
          have hu8 : (u == 100000) = false := beq_eq_false_iff_ne.2 hu9
          have htu : tmB (u + 1) = true := tmB_true.2 (by have := tmB_true.1 HI.out.2.2.2.2.2.2; omega)
          have hur := tmB_true.1 HI.out.2.2.2.2.2.2
          obtain ⟨ds, hds⟩ : ∃ ds, spDrop zs (u + 1) = ds := ⟨_, rfl⟩
          have HD := hide hds
          have SD := hide (spDropS hds HI.out.1 htu _ _ (HX.out))
          clear hds htu hu9
          go_wp2_with fail
          refine SD.out.mono ?_
          rintro e y1 ⟨vy, rfl, hpy, hby1⟩
          have hY1 : Below w.heap.size w y1 := (hb).trans (hby1.mono (hb).size)
          clear hby1 SD
          by_cases hd0 : ds = []
          ·
            subst hd0
            obtain ⟨a9, c9, rfl⟩ := psl_nil hpy
            go_wp2
            go_rounds 1
            go_ret
            exact ⟨rfl, hY1⟩
          ·
            obtain ⟨b9, o9, c9, rfl, hc9, hb9, hpc9⟩ := psl_some hpy hd0
            have hl9 := hpy.1
            have HAB := hide (spDrop_above HD.out)
            obtain ⟨n9, hn9⟩ : ∃ n9, n9 = ds.length := ⟨_, rfl⟩
            rw [← hn9] at hc9 hl9 ⊢
            have Hn9 := hide hn9
            have HPC := hide hpc9
            clear hn9 hpc9 hpy hd0
            go_wp2_with fail
            go_loopw [29] (fun j ww => ∃ m : Nat, j = .int .i64 m ∧ m ≤ n9 ∧ ww = y1) (fun j _ => 2000 - (intOf j).toNat)
            case atStart => exact ⟨0, rfl, by omega, rfl⟩
            case round =>
              obtain ⟨m, rfl, hm, rfl⟩ := hrel
              by_cases hlt9 : m < n9
              ·
                have hmz : m < ds.length := by rw [← Hn9.out]; exact hlt9
                obtain ⟨p0, p1⟩ := HPC.out m hmz
                have hab := HAB.out m hmz
                generalize ds.getD m (0, 0) = y at p0 p1 hab
                obtain ⟨yn, yu⟩ := y
                simp only at p0 p1 hab
                clear hmz
                go_wp2
                go_roundw
                case rel => exact ⟨m + 1, by go_num, by omega, by first | rfl | trivial⟩
                case measure => simp [intOf] <;> omega
              ·
                obtain rfl : m = n9 := by omega
                go_wp2
                go_ret
                exact ⟨rfl, hY1⟩
    ·
      by_cases hu9 : u = 100000
      ·
        subst hu9
        go_wp2_with fail
        refine (spDrop_bad (now := 100001) HI.out.1 (by decide) _ _ (HX.out)).mono ?_
        rintro e y1 ⟨rfl, hby1⟩
        have hY1 : Below w.heap.size w y1 := (hb).trans (hby1.mono (hb).size)
        clear hby1
        go_wp2_with fail
        refine (error_any 1 1 _ (hE.below (B := w.heap.size) hY1 hE.pos)).mono ?_
        rintro e y2 ⟨rfl, hby2⟩
        have hY2 : Below w.heap.size w y2 := hY1.trans (hby2.mono hY1.size)
        go_wp2
        go_ret
        exact ⟨rfl, hY2⟩
      ·
        have hu8 : (u == 100000) = false := beq_eq_false_iff_ne.2 hu9
        have htu : tmB (u + 1) = true := tmB_true.2 (by have := tmB_true.1 HI.out.2.2.2.2.2.2; omega)
        have hur := tmB_true.1 HI.out.2.2.2.2.2.2
        obtain ⟨ds, hds⟩ : ∃ ds, spDrop zs (u + 1) = ds := ⟨_, rfl⟩
        have HD := hide hds
        have SD := hide (spDropS hds HI.out.1 htu _ _ (HX.out))
        clear hds htu hu9
        go_wp2_with fail
        refine SD.out.mono ?_
        rintro e y1 ⟨vy, rfl, hpy, hby1⟩
        have hY1 : Below w.heap.size w y1 := (hb).trans (hby1.mono (hb).size)
        clear hby1 SD
        by_cases hd0 : ds = []
        ·
          subst hd0
          obtain ⟨a9, c9, rfl⟩ := psl_nil hpy
          go_wp2
          go_rounds 1
          go_ret
          exact ⟨rfl, hY1⟩
        ·
          obtain ⟨b9, o9, c9, rfl, hc9, hb9, hpc9⟩ := psl_some hpy hd0
          have hl9 := hpy.1
          have HAB := hide (spDrop_above HD.out)
          obtain ⟨n9, hn9⟩ : ∃ n9, n9 = ds.length := ⟨_, rfl⟩
          rw [← hn9] at hc9 hl9 ⊢
          have Hn9 := hide hn9
          have HPC := hide hpc9
          clear hn9 hpc9 hpy hd0
          go_wp2_with fail
          go_loopw [29] (fun j ww => ∃ m : Nat, j = .int .i64 m ∧ m ≤ n9 ∧ ww = y1) (fun j _ => 2000 - (intOf j).toNat)
          case atStart => exact ⟨0, rfl, by omega, rfl⟩
          case round =>
            obtain ⟨m, rfl, hm, rfl⟩ := hrel
            by_cases hlt9 : m < n9
            ·
              have hmz : m < ds.length := by rw [← Hn9.out]; exact hlt9
              obtain ⟨p0, p1⟩ := HPC.out m hmz
              have hab := HAB.out m hmz
              generalize ds.getD m (0, 0) = y at p0 p1 hab
              obtain ⟨yn, yu⟩ := y
              simp only at p0 p1 hab
              clear hmz
              go_wp2
              go_roundw
              case rel => exact ⟨m + 1, by go_num, by omega, by first | rfl | trivial⟩
              case measure => simp [intOf] <;> omega
            ·
              obtain rfl : m = n9 := by omega
              go_wp2
              go_ret
              exact ⟨rfl, hY1⟩
theorem walkSpentOnce (w : World) (a : Option Addr) (len cap : Nat) (zz : List (Int × Int)) (hl : len ≤ cap) (_hc : cap ≤ maxLen) (hr : PairRow w a len zz) (n : Int) (_w0 : (Lit.int .i64 n).wf = true) (u : Int) (_w1 : (Lit.int .i64 u).wf = true) (now : Int) (_w2 : (Lit.int .i64 now).wf = true) (a2 : Option Addr) (len2 cap2 : Nat) (yy : List (List Int)) (_hl2 : len2 ≤ cap2) (_hc2 : cap2 ≤ maxLen) (hr2 : MatRow w a2 len2 yy) (hE : ErrT w) :
    Calls Tryd.prog 8 #[.slice a len cap, .int .i64 n, .int .i64 u, .int .i64 now, .slice a2 len2 cap2] w fun e w' => e = .returned (.bool true) ∧ Below w.heap.size w w' := by
  by_cases h16 : 16 < len
  · exact soBad w _ n u now a2 len2 cap2 hE (c := 4) (by decide) (fun W hW => spSpend_f W ((spBad_long w h16 hr.2.1).below hW) (by decide))
  · have hv := psl_row hr hl (by omega)
    by_cases h0 : spE zz = 0
    · by_cases h1 : spMoreE zz n u now = 0
      · exact soGood w _ n u now a2 len2 cap2 hE hr2.2.1 yy hr2 hv h0 (by rw [hr.1]; omega) h1
      · exact soBad w _ n u now a2 len2 cap2 hE h1 (fun W hW => spSpend_bad h0 rfl h1 _ W (hv.below hW))
    · exact soBad w _ n u now a2 len2 cap2 hE h0 (fun W hW => spSpend_f W ((spBad_psl hv rfl).below hW) h0)
end Go.Proofs.YtfehnfbmlomccaaDoor
