/- The walk of EarlyPlays. -/
import Derived.Test.YtnfgeidiglldkaaDoorEarly
import Derived.Test.YtnfgeidiglldkaaDoorStrRow
import Derived.Test.YtnfgeidiglldkaaDoorErr
namespace Go.Proofs.YtnfgeidiglldkaaDoor
open Go.RowKit

set_option maxRecDepth 100000 in
set_option maxHeartbeats 4000000 in
/-- the loop and what is behind it -/
theorem walkEarlyPlays1 (w : World) (lim : Int) (l0 : 0 ≤ lim) (l1 : lim ≤ 40) (a : Option Addr) (len cap : Nat) (ss : List ByteArray) (hm : len ≤ maxLen) (a2 : Option Addr) (len2 cap2 : Nat) (zs : List Int) (_hm2 : len2 ≤ maxLen)
    (hr : len = 0 ∨ ∃ b off, a = some ⟨b, off, none⟩ ∧ b < w.heap.size ∧ len ≤ maxLen ∧ ss.length = len ∧ (∀ i, i < len → (ss.getD i ByteArray.empty).size ≤ maxLen) ∧ ∀ i, i < len → w.cell? ⟨b, off + i, none⟩ = some (.string (ss.getD i ByteArray.empty)))
    (hr2 : len2 = 0 ∨ ∃ b off, a2 = some ⟨b, off, none⟩ ∧ b < w.heap.size ∧ len2 ≤ maxLen ∧ zs.length = len2 ∧ ∀ i, i < len2 → w.cell? ⟨b, off + i, none⟩ = some (.int .i64 (zs.getD i 0))) (hE : ErrT w) :
    Calls Tryd.prog 5 #[.int .i64 lim, .slice a len cap, .slice a2 len2 cap2] w fun e w' => e = .returned (.bool true) ∧ Below w.heap.size w w' := by
  unfold maxLen at hm _hm2
  have HR := hide hr
  have HR2 := hide hr2
  clear hr hr2
  have N0 : ∀ (W : World) (n : Int), EarlyAt (W.alloc (.cells #[.string ⟨#[]⟩, .int .i64 n] 71)) W.heap.size ⟨#[]⟩ n := fun W n => ObjAt.new _ _ _
  have HN := hide N0
  clear N0
  go_enter Tryd.func5, Tryd.ntmps5
  go_wp2_with fail
  refine (earlyNew_ok lim _ l0 l1).mono ?_
  rintro e w1 ⟨rfl, rfl⟩
  go_wp2_with fail
  have hba : Below w.heap.size w (w.alloc (.cells #[.string ⟨#[]⟩, .int .i64 lim] 71)) := (Below.refl _ _).alloc (Nat.le_refl _) _
  have hoa := HN.out w lim
  refine (error_any 0 0 _ (hE.below hba hE.pos)).mono ?_
  rintro e w2 ⟨rfl, hb2'⟩
  have Ho2 := hide (ObjAt.below hoa hb2')
  have hb2 := hba.trans (hb2'.mono hba.size)
  clear hb2' hoa hba
  go_wp2_with fail
  go_loopw [11, 12, 13] (fun ls ds i wr => ∃ (k : Nat) (n : Int) (d : ByteArray), ls = .int .i64 n ∧ ds = .string d ∧ i = .int .i64 k ∧ k ≤ len ∧ k ≤ 40 ∧ 0 ≤ n ∧ n ≤ 40 ∧ (d.size : Int) + n ≤ 40 ∧ EarlyAt wr w.heap.size d n ∧ Below w.heap.size w wr) (fun _ _ i _ => 40 - (intOf i).toNat)
  case atStart => exact ⟨0, lim, ⟨#[]⟩, rfl, rfl, rfl, by omega, by omega, l0, l1, by rw [show (⟨#[]⟩ : ByteArray).size = 0 from rfl]; omega, Ho2.out, hb2⟩
  case round =>
    obtain ⟨k, n, s, rfl, rfl, rfl, hk, hk2, f1, f2, f3, ho, hb⟩ := hrel
    have Ho := hide ho
    clear ho
    by_cases h1 : k < len
    · by_cases h2 : k < 40
      · obtain ⟨b, off, ha, hlt, hds, hcl⟩ : ∃ b off, a = some ⟨b, off, none⟩ ∧ b < w.heap.size ∧ (ss.getD k ByteArray.empty).size ≤ maxLen ∧ w.cell? ⟨b, off + k, none⟩ = some (.string (ss.getD k ByteArray.empty)) := by
          rcases HR.out with h | ⟨b, off, h3, h4, h5, h6, h7, h8⟩
          · omega
          · exact ⟨b, off, h3, h4, h7 k h1, h8 k h1⟩
        have hat : Hid (k < len2 → ∃ b off, a2 = some ⟨b, off, none⟩ ∧ b < w.heap.size ∧ w.cell? ⟨b, off + k, none⟩ = some (.int .i64 (zs.getD k 0))) := by
          intro hkk
          rcases HR2.out with h | ⟨b, off, h3, h4, h5, h6, h8⟩
          · omega
          · exact ⟨b, off, h3, h4, h8 k hkk⟩
        subst ha
        obtain ⟨d, hd⟩ : ∃ d, d = ss.getD k ByteArray.empty := ⟨_, rfl⟩
        rw [← hd] at hds hcl
        clear hd
        unfold maxLen at hds
        have hcell : wr.cell? ⟨b, off + k, none⟩ = some (.string d) := (hb.cell (p := ⟨b, off + k, none⟩) hlt).trans hcl
        clear hcl
        by_cases hfull : n < d.size
        · have C := hide (earlyPut_full _ _ d _ _ Ho.out hfull)
          go_wp2_with fail
          refine (C.out).mono ?_
          rintro e w5 ⟨rfl, ho1, hk1⟩
          have hb5 : Below w.heap.size w w5 := bel_kept hb hk1
          clear hk1 hcell C
          have Ho1 := hide ho1
          clear ho1 Ho
          go_wp2_with fail
          refine (error_any 4 4 w5 (hE.below hb5 hE.pos)).mono ?_
          rintro e w6 ⟨rfl, hb6'⟩
          have Ho2 := hide (ObjAt.below Ho1.out hb6')
          have hb6 := hb5.trans (hb6'.mono hb5.size)
          clear hb6' Ho1 hb5
          by_cases h3 : k < len2
          · obtain ⟨b2, off2, ha2, hlt2, hc2'⟩ := hat.out h3
            subst ha2
            obtain ⟨z, hz⟩ : ∃ z, z = zs.getD k 0 := ⟨_, rfl⟩
            rw [← hz] at hc2'
            have hcell2 : w6.cell? ⟨b2, off2 + k, none⟩ = some (.int .i64 z) := (hb6.cell (p := ⟨b2, off2 + k, none⟩) hlt2).trans hc2'
            clear hz hc2'
            by_cases hz1 : z = 1
            · subst hz1
              go_wp2_with fail
              refine (earlyTake _ _ _ _ Ho2.out).mono ?_
              rintro e w7 ⟨rfl, ho7, hk7⟩
              have hb7 : Below w.heap.size w w7 := bel_kept hb6 hk7
              have Ho7 := hide ho7
              clear ho7 hk7 Ho2 hcell2
              go_wp2_with fail
              refine (earlyLeft _ _ _ _ Ho7.out).mono ?_
              rintro e w8 ⟨rfl, rfl⟩
              go_wp2
              go_roundw
              case rel => exact ⟨k + 1, n, ⟨#[]⟩, rfl, rfl, by go_num, by omega, by omega, by omega, by omega, by rw [show (⟨#[]⟩ : ByteArray).size = 0 from rfl]; omega, Ho7.out, hb7⟩
              case measure => simp [intOf]; omega
            · have t1 : (z == 1) = false := beq_eq_false_iff_ne.2 hz1
              clear hz1
              go_wp2_with fail
              refine (earlyLeft _ _ _ _ Ho2.out).mono ?_
              rintro e w8 ⟨rfl, rfl⟩
              go_wp2
              go_roundw
              case rel => exact ⟨k + 1, n, s, rfl, rfl, by go_num, by omega, by omega, by omega, by omega, by omega, Ho2.out, hb6⟩
              case measure => simp [intOf]; omega
          · skip
            go_wp2_with fail
            refine (earlyLeft _ _ _ _ Ho2.out).mono ?_
            rintro e w8 ⟨rfl, rfl⟩
            go_wp2
            go_roundw
            case rel => exact ⟨k + 1, n, s, rfl, rfl, by go_num, by omega, by omega, by omega, by omega, by omega, Ho2.out, hb6⟩
            case measure => simp [intOf]; omega
        · have hput : (d.size : Int) ≤ n := by omega
          have C := hide (earlyPut_ok _ _ d _ _ Ho.out hput (by omega) (by omega))
          clear hfull
          go_wp2_with fail
          refine (C.out).mono ?_
          rintro e w5 ⟨rfl, ho1, hk1⟩
          have hb5 : Below w.heap.size w w5 := bel_kept hb hk1
          clear hk1 hcell C
          have hz : (s ++ d).size = s.size + d.size := ba_size_append s d
          obtain ⟨s', hs'⟩ : ∃ s', s' = s ++ d := ⟨_, rfl⟩
          rw [← hs'] at ho1 hz
          have hcd : s ++ d = s' := hs'.symm
          have g3 : (s'.size : Int) + (n - d.size) ≤ 40 := by omega
          clear hs' hz
          have Ho1 := hide ho1
          clear ho1 Ho
          go_wp2_with fail
          refine (error_any 0 0 w5 (hE.below hb5 hE.pos)).mono ?_
          rintro e w6 ⟨rfl, hb6'⟩
          have Ho2 := hide (ObjAt.below Ho1.out hb6')
          have hb6 := hb5.trans (hb6'.mono hb5.size)
          clear hb6' Ho1 hb5
          by_cases h3 : k < len2
          · obtain ⟨b2, off2, ha2, hlt2, hc2'⟩ := hat.out h3
            subst ha2
            obtain ⟨z, hz⟩ : ∃ z, z = zs.getD k 0 := ⟨_, rfl⟩
            rw [← hz] at hc2'
            have hcell2 : w6.cell? ⟨b2, off2 + k, none⟩ = some (.int .i64 z) := (hb6.cell (p := ⟨b2, off2 + k, none⟩) hlt2).trans hc2'
            clear hz hc2'
            by_cases hz1 : z = 1
            · subst hz1
              go_wp2_with fail
              refine (earlyTake _ _ _ _ Ho2.out).mono ?_
              rintro e w7 ⟨rfl, ho7, hk7⟩
              have hb7 : Below w.heap.size w w7 := bel_kept hb6 hk7
              have Ho7 := hide ho7
              clear ho7 hk7 Ho2 hcell2
              go_wp2_with fail
              refine (earlyLeft _ _ _ _ Ho7.out).mono ?_
              rintro e w8 ⟨rfl, rfl⟩
              go_wp2
              go_roundw
              case rel => exact ⟨k + 1, (n - d.size), ⟨#[]⟩, rfl, rfl, by go_num, by omega, by omega, by omega, by omega, by rw [show (⟨#[]⟩ : ByteArray).size = 0 from rfl]; omega, Ho7.out, hb7⟩
              case measure => simp [intOf]; omega
            · have t1 : (z == 1) = false := beq_eq_false_iff_ne.2 hz1
              clear hz1
              go_wp2_with fail
              refine (earlyLeft _ _ _ _ Ho2.out).mono ?_
              rintro e w8 ⟨rfl, rfl⟩
              go_wp2
              go_roundw
              case rel => exact ⟨k + 1, (n - d.size), s', rfl, rfl, by go_num, by omega, by omega, by omega, by omega, by omega, Ho2.out, hb6⟩
              case measure => simp [intOf]; omega
          · skip
            go_wp2_with fail
            refine (earlyLeft _ _ _ _ Ho2.out).mono ?_
            rintro e w8 ⟨rfl, rfl⟩
            go_wp2
            go_roundw
            case rel => exact ⟨k + 1, (n - d.size), s', rfl, rfl, by go_num, by omega, by omega, by omega, by omega, by omega, Ho2.out, hb6⟩
            case measure => simp [intOf]; omega
      · go_wp2
        go_ret
        exact ⟨rfl, hb⟩
    · go_wp2
      go_ret
      exact ⟨rfl, hb⟩

/-- a limit that may not be -/
theorem walkEarlyPlays0 (w : World) (lim : Int) (hl : lim < 0 ∨ 40 < lim) (a : Option Addr) (len cap : Nat) (a2 : Option Addr) (len2 cap2 : Nat) (hE : ErrT w) :
    Calls Tryd.prog 5 #[.int .i64 lim, .slice a len cap, .slice a2 len2 cap2] w fun e w' => e = .returned (.bool true) ∧ Below w.heap.size w w' := by
  have NB := hide (fun W => earlyNew_bad lim W hl)
  rcases hl with hl | hl
  all_goals
    go_enter Tryd.func5, Tryd.ntmps5
    go_wp2_with fail
    refine (NB.out _).mono ?_
    rintro e w1 ⟨rfl, rfl⟩
    go_wp2_with fail
    refine (error_any 1 1 w hE).mono ?_
    rintro e w2 ⟨rfl, hb2⟩
    go_wp2
    go_ret
    exact ⟨rfl, hb2⟩
theorem walkEarlyPlays (w : World) (lim : Int) (_w0 : (Lit.int .i64 lim).wf = true) (a : Option Addr) (len cap : Nat) (ss : List ByteArray) (_hl : len ≤ cap) (_hc : cap ≤ maxLen) (hr : StrRow w a len ss) (a2 : Option Addr) (len2 cap2 : Nat) (zs : List Int) (_hl2 : len2 ≤ cap2) (_hc2 : cap2 ≤ maxLen) (hr2 : IntRow w a2 len2 zs) (hE : ErrT w) :
    Calls Tryd.prog 5 #[.int .i64 lim, .slice a len cap, .slice a2 len2 cap2] w fun e w' => e = .returned (.bool true) ∧ Below w.heap.size w w' := by
  by_cases h : lim < 0 ∨ 40 < lim
  · exact walkEarlyPlays0 w lim h a len cap a2 len2 cap2 hE
  · exact walkEarlyPlays1 w lim (by omega) (by omega) a len cap ss hr.2.1 a2 len2 cap2 zs hr2.2.1 hr.split hr2.split hE
end Go.Proofs.YtnfgeidiglldkaaDoor
