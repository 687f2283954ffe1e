/- The walk of LogStops. -/
import Derived.Test.YtjbpkmmpbhngbaaDoorLogStopsP
import Derived.Test.YtjbpkmmpbhngbaaDoorLogW
namespace Go.Proofs.YtjbpkmmpbhngbaaDoor
open Go.RowKit

set_option maxRecDepth 100000 in
set_option maxHeartbeats 8000000 in
theorem walkLogStops (w : World) (after : Int) (_w0 : (Lit.int .i64 after).wf = true) (many : Int) (_w1 : (Lit.int .i64 many).wf = true) (keep : Int) (w2 : (Lit.int .i64 keep).wf = true) (hT : Tabs w) :
    Calls Tryd.prog 3 #[.int .i64 after, .int .i64 many, .int .i64 keep] w fun r w' => r = .returned (.bool true) ∧ Below w.heap.size w w' := by
  have HT := hide hT
  have W2 := hide w2
  have W0 := hide _w0
  clear hT w2 _w0 _w1
  by_cases hr : 0 ≤ after ∧ after ≤ 12 ∧ 0 ≤ many ∧ many ≤ 12
  · obtain ⟨a0, a1, m0, m1⟩ := hr
    obtain ⟨a, rfl⟩ : ∃ a : Nat, after = a := ⟨after.toNat, by omega⟩
    obtain ⟨m, rfl⟩ : ∃ m : Nat, many = m := ⟨many.toNat, by omega⟩
    have g1 : decide ((a : Int) < 0) = false := by simp
    have g2 : decide ((12 : Int) < (a : Int)) = false := by simp; omega
    have g3 : decide ((m : Int) < 0) = false := by simp
    have g4 : decide ((12 : Int) < (m : Int)) = false := by simp; omega
    have NW := hide (lwNew w)
    go_enter Tryd.func3, Tryd.ntmps3
    go_wp2_with fail
    refine NW.out.mono ?_
    rintro e w3 ⟨b, rfl, h3⟩
    have H3 := hide h3
    clear h3
    go_wp2_with fail
    refine (lwFail W0.out H3.out).mono ?_
    rintro e w4 ⟨⟨rr, rfl⟩, h4⟩
    rw [← stops_0] at h4
    have H4 := hide h4
    clear h4 H3 NW
    go_wp2
    go_loopw [8, 9] (fun st i wr => ∃ k : Nat, st = .int .i64 (k : Int) ∧ i = .int .i64 (k : Int) ∧ k ≤ m ∧ Hid (LW w wr b (stops a k)))
      (fun _ i _ => m - (intOf i).toNat)
    case atStart => exact ⟨0, rfl, rfl, by omega, H4⟩
    case round =>
      obtain ⟨k, rfl, rfl, hk, H⟩ := hrel
      obtain ⟨wl, rfl⟩ : ∃ x, x = wr := ⟨wr, rfl⟩
      clear H4
      by_cases hlt : k < m
      · -- the i-th round
          have SB := hide (fun W (hW : LW w W b (stops a k)) => lwSpend (stops_ok a (by omega) k (by omega)) (-1) 5 1 HT.out hW)
          rw [stops_bad] at SB
          have SN := hide (fun W (hW : LW w W b (stops a k)) => lwSpend (stops_ok a (by omega) k (by omega)) (k : Int) 5 1 HT.out hW)
          rw [stops_next (by omega)] at SN
          have ER := hide (fun (c n : Int) W (hW : LW w W b (stops a (k + 1))) => lwErr c n HT.out hW)
          rcases (by omega : k < a ∨ k = a ∨ a < k) with h1 | h1 | h1
          ·
            have f1 : (if k ≤ a then (1 : Int) else 6) = 1 := by rw [if_pos (by omega)]
            have f2 : (if k < a then (0 : Int) else 6) = 0 := by rw [if_pos (by omega)]
            rw [f1] at SB
            rw [f2] at SN
            clear f1 f2
            have p1 : decide ((a : Int) < (k : Int)) = false := by simp; omega
            have p2 : decide ((k : Int) ≤ (a : Int)) = true := by simp; omega
            have p3 : ((k : Int) == (a : Int)) = false := beq_eq_false_iff_ne.2 (by omega)
            have p4 : decide ((k : Int) < (a : Int)) = true := by simp; omega
            go_wp2_with fail
            refine (SB.out _ H.out).mono ?_
            rintro e w5 ⟨rfl, h5⟩
            have H5 := hide h5
            clear h5
            go_wp2_with fail
            refine (SN.out _ H5.out).mono ?_
            rintro e w6 ⟨rfl, h6⟩
            have H6 := hide h6
            clear h6
            go_wp2_with fail
            refine (ER.out 1 6 _ H6.out).mono ?_
            rintro e w7 ⟨rfl, h7⟩
            have H7 := hide h7
            clear h7
            go_wp2_with fail
            refine (ER.out 1 1 _ H7.out).mono ?_
            rintro e w8 ⟨rfl, h8⟩
            have H8 := hide h8
            clear h8
            go_wp2_with fail
            refine (ER.out 0 6 _ H8.out).mono ?_
            rintro e w9 ⟨rfl, h9⟩
            have H9 := hide h9
            clear h9
            go_wp2
            go_roundw
            case rel => exact ⟨k + 1, rfl, rfl, by omega, H9⟩
            case measure => (simp [intOf] <;> omega)
          · subst h1
            have f1 : (if k ≤ k then (1 : Int) else 6) = 1 := by rw [if_pos (by omega)]
            have f2 : (if k < k then (0 : Int) else 6) = 6 := by rw [if_neg (by omega)]
            rw [f1] at SB
            rw [f2] at SN
            clear f1 f2
            have p1 : decide ((k : Int) < (k : Int)) = false := by simp
            go_wp2_with fail
            refine (SB.out _ H.out).mono ?_
            rintro e w5 ⟨rfl, h5⟩
            have H5 := hide h5
            clear h5
            go_wp2_with fail
            refine (SN.out _ H5.out).mono ?_
            rintro e w6 ⟨rfl, h6⟩
            have H6 := hide h6
            clear h6
            go_wp2_with fail
            refine (ER.out 1 6 _ H6.out).mono ?_
            rintro e w7 ⟨rfl, h7⟩
            have H7 := hide h7
            clear h7
            go_wp2_with fail
            refine (ER.out 1 1 _ H7.out).mono ?_
            rintro e w8 ⟨rfl, h8⟩
            have H8 := hide h8
            clear h8
            go_wp2_with fail
            refine (ER.out 6 6 _ H8.out).mono ?_
            rintro e w9 ⟨rfl, h9⟩
            have H9 := hide h9
            clear h9
            go_wp2
            go_roundw
            case rel => exact ⟨k + 1, rfl, rfl, by omega, H9⟩
            case measure => (simp [intOf] <;> omega)
          ·
            have f1 : (if k ≤ a then (1 : Int) else 6) = 6 := by rw [if_neg (by omega)]
            have f2 : (if k < a then (0 : Int) else 6) = 6 := by rw [if_neg (by omega)]
            rw [f1] at SB
            rw [f2] at SN
            clear f1 f2
            have p1 : decide ((a : Int) < (k : Int)) = true := by simp; omega
            have p2 : decide ((k : Int) ≤ (a : Int)) = false := by simp; omega
            have p3 : ((k : Int) == (a : Int)) = false := beq_eq_false_iff_ne.2 (by omega)
            have p4 : decide ((k : Int) < (a : Int)) = false := by simp; omega
            go_wp2_with fail
            refine (SB.out _ H.out).mono ?_
            rintro e w5 ⟨rfl, h5⟩
            have H5 := hide h5
            clear h5
            go_wp2_with fail
            refine (SN.out _ H5.out).mono ?_
            rintro e w6 ⟨rfl, h6⟩
            have H6 := hide h6
            clear h6
            go_wp2_with fail
            refine (ER.out 6 6 _ H6.out).mono ?_
            rintro e w7 ⟨rfl, h7⟩
            have H7 := hide h7
            clear h7
            go_wp2_with fail
            refine (ER.out 6 1 _ H7.out).mono ?_
            rintro e w8 ⟨rfl, h8⟩
            have H8 := hide h8
            clear h8
            go_wp2_with fail
            refine (ER.out 6 6 _ H8.out).mono ?_
            rintro e w9 ⟨rfl, h9⟩
            have H9 := hide h9
            clear h9
            go_wp2
            go_roundw
            case rel => exact ⟨k + 1, rfl, rfl, by omega, H9⟩
            case measure => (simp [intOf] <;> omega)
      · obtain rfl : k = m := by omega
        go_wp2
        go_loopw [8, 15] (fun st _ wr => ∃ (n : Nat) (S : LS), st = .int .i64 (n : Int) ∧ Hid (SyncAt a (min k a) n S) ∧ Hid (LW w wr b S))
          (fun st _ _ => a + 1 - (intOf st).toNat)
        case atStart => exact ⟨k, _, rfl, hide (sync_start (by omega) (by omega)), H⟩
        case round =>
          clear H
          obtain ⟨n, S, rfl, HS, HL⟩ := hrel
          obtain ⟨w20, rfl⟩ : ∃ x, x = wr := ⟨wr, rfl⟩
          by_cases hn : n ≤ a
          · obtain ⟨hS1, hc⟩ := sync_next HS.out hn
            have SY := hide (lwSync HS.out.ok HL.out)
            have HS1 := hide hS1
            by_cases he : n = a
            · rw [if_pos he] at hc
              rw [hc] at SY
              subst he
              clear hS1 hc HS HL
              go_wp2_with fail
              refine SY.out.mono ?_
              rintro e w21 ⟨rfl, h21⟩
              have H21 := hide h21
              clear h21
              go_wp2
              go_roundw
              case rel => exact ⟨n + 1, _, by go_num, HS1, H21⟩
              case measure => (simp [intOf] <;> omega)
            · rw [if_neg he] at hc
              rw [hc] at SY
              have p3 : ((n : Int) == (a : Int)) = false := beq_eq_false_iff_ne.2 (by omega)
              clear hS1 hc HS HL he
              go_wp2_with fail
              refine SY.out.mono ?_
              rintro e w21 ⟨rfl, h21⟩
              have H21 := hide h21
              clear h21
              go_wp2
              go_roundw
              case rel => exact ⟨n + 1, _, by go_num, HS1, H21⟩
              case measure => (simp [intOf] <;> omega)
          · have hst : S.st = true := HS.out.halt (by omega)
            have hsy : S.sync = (S, 6) := by unfold LS.sync; rw [if_pos hst]
            have hsp : S.spend 3 5 1 = (S, 6) := by unfold LS.spend; rw [if_pos hst]
            have SY := hide (fun W (hW : LW w W b S) => lwSync HS.out.ok hW)
            have SP := hide (fun W (hW : LW w W b S) => lwSpend HS.out.ok 3 5 1 HT.out hW)
            rw [hsy] at SY
            rw [hsp] at SP
            have ER := hide (fun (c n : Int) W (hW : LW w W b S) => lwErr c n HT.out hW)
            have CR := hide (fun W (hW : LW w W b S) => lwCrash HS.out.ok keep W2.out HT.out hW)
            obtain ⟨j, hj, hjr, hjl, hjs⟩ := crash_recs HS.out.rs keep
            have hcok := LS.ok.crash HS.out.ok keep
            have hczs : (S.crash keep).zs = rz j := by unfold LS.zs; rw [hjr, rz_more]
            obtain ⟨hsp0, hspz, hspl, hsps⟩ := last_spend (by omega) hjr hjl hjs
            have hspok := LS.ok.spend hcok 500 9 2
            have AL := hide (fun W (hW : LW w W b (S.crash keep)) => lwAll hW)
            rw [hczs] at AL
            have SQ := hide (fun W (hW : LW w W b (S.crash keep)) => lwSpend hcok 500 9 2 HT.out hW)
            rw [hsp0] at SQ
            obtain ⟨U, hU⟩ : ∃ U, U = ((S.crash keep).spend 500 9 2).1 := ⟨_, rfl⟩
            rw [← hU] at SQ hspz hspl hsps hspok
            have hus := last_sync hspl hsps
            have SZ := hide (fun W (hW : LW w W b U) => lwSync hspok hW)
            rw [hus] at SZ
            obtain ⟨V, hV⟩ : ∃ V : LS, V = { U with safe := U.bytes.length, left := -1, st := false } := ⟨_, rfl⟩
            rw [← hV] at SZ
            have hVz : V.zs = rz j ++ [(500, 9)] := by rw [hV]; exact hspz
            have hVs : V.safe = (V.bytes.length : Int) := by rw [hV]; rfl
            have AV := hide (fun W (hW : LW w W b V) => lwAll hW)
            rw [hVz] at AV
            have SF := hide (fun W (hW : LW w W b V) => lwSafe hW)
            rw [hVs] at SF
            have BY := hide (fun W (hW : LW w W b V) => lwBytes hW)
            have hj13 : j ≤ 12 := by omega
            clear hst hsy hsp HS hjr hjl hjs hcok hczs hsp0 hspz hspl hsps hspok hU hus hV hVz hVs
            go_wp2_with fail
            refine (SY.out _ HL.out).mono ?_
            rintro e w21 ⟨rfl, h21⟩
            have H21 := hide h21
            clear h21
            go_wp2_with fail
            refine (ER.out 6 6 _ H21.out).mono ?_
            rintro e w22 ⟨rfl, h22⟩
            have H22 := hide h22
            clear h22
            go_wp2_with fail
            refine (SP.out _ H22.out).mono ?_
            rintro e w23 ⟨rfl, h23⟩
            have H23 := hide h23
            clear h23
            go_wp2_with fail
            refine (ER.out 6 6 _ H23.out).mono ?_
            rintro e w24 ⟨rfl, h24⟩
            have H24 := hide h24
            clear h24
            go_wp2_with fail
            refine (CR.out _ H24.out).mono ?_
            rintro e w25 ⟨⟨r25, rfl⟩, h25⟩
            have H25 := hide h25
            clear h25
            go_wp2_with fail
            refine (AL.out _ H25.out).mono ?_
            rintro e w26 ⟨v26, rfl, hp26, h26⟩
            have H26 := hide h26
            obtain ⟨a26, c26, rfl⟩ : ∃ a c, v26 = .slice a (rz j).length c := by
              rcases hp26.2 with ⟨h, a, c, e⟩ | ⟨g, off, c, e, _⟩
              · exact ⟨a, c, by rw [e, h]; rfl⟩
              · exact ⟨_, _, e⟩
            rw [rz_len]
            clear h26 hp26
            go_wp2_with fail
            refine (SQ.out _ H26.out).mono ?_
            rintro e w27 ⟨rfl, h27⟩
            have H27 := hide h27
            clear h27
            go_wp2_with fail
            refine (SZ.out _ H27.out).mono ?_
            rintro e w28 ⟨rfl, h28⟩
            have H28 := hide h28
            clear h28
            go_wp2_with fail
            refine (AV.out _ H28.out).mono ?_
            rintro e w29 ⟨v29, rfl, hp29, h29⟩
            have H29 := hide h29
            have hpl : (rz j ++ [((500 : Int), (9 : Int))]).length = j + 1 := by rw [List.length_append, rz_len]; rfl
            obtain ⟨g29, o29, c29, rfl, hc29⟩ : ∃ g off c, v29 = .slice (some ⟨g, off, none⟩) (j + 1) c ∧ w29.cell? ⟨g, off + j * 2, none⟩ = some (.int .i64 500) := by
              rcases hp29.2 with ⟨h, _⟩ | ⟨g, off, c, e, _, _, hpc⟩
              · rw [h] at hpl; simp at hpl
              · rw [hpl] at e
                refine ⟨g, off, c, e, ?_⟩
                have h1 := (hpc j (by omega)).1
                have h2 : (rz j ++ [((500 : Int), (9 : Int))]).getD j (0, 0) = (500, 9) := by
                  rw [List.getD_eq_getElem?_getD, List.getElem?_append_right (by rw [rz_len]; exact Nat.le_refl _), rz_len]
                  simp
                rw [h2] at h1
                exact h1
            clear h29 hp29 hpl
            go_wp2_with (first
              | (go_at_call 11; refine (SF.out _ H29.out).mono ?_; rintro e w' ⟨rfl, rfl⟩)
              | (go_at_call 12; refine (BY.out _ H29.out).mono ?_; rintro e w' ⟨rfl, rfl⟩))
            go_ret
            exact ⟨by simp, H29.out.2.1⟩
  · have done : ∀ (A B C D : Bool), decide (after < 0) = A → decide (12 < after) = B → decide (many < 0) = C → decide (12 < many) = D → (A || B || C || D) = true →
        Calls Tryd.prog 3 #[.int .i64 after, .int .i64 many, .int .i64 keep] w fun r w' => r = .returned (.bool true) ∧ Below w.heap.size w w' := by
      intro A B C D h1 h2 h3 h4 h5
      clear hr
      cases A <;> cases B <;> cases C <;> cases D <;> first
        | (exact absurd h5 (by decide))
        | (clear h5
           go_enter Tryd.func3, Tryd.ntmps3
           go_wp2
           go_ret
           exact ⟨rfl, Below.refl _ _⟩)
    exact done _ _ _ _ rfl rfl rfl rfl (by simp; omega)
end Go.Proofs.YtjbpkmmpbhngbaaDoor
