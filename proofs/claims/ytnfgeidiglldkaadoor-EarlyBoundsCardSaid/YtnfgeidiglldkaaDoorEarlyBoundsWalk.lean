/- The walk of EarlyBounds. -/
import Derived.Test.YtnfgeidiglldkaaDoorEarly
import Derived.Test.YtnfgeidiglldkaaDoorStrRow
import Derived.Test.YtnfgeidiglldkaaDoorErr
namespace Go.Proofs.YtnfgeidiglldkaaDoor
open Go.RowKit

/-- what came is what was taken and what is there; no more than the limit -/
def ebJ (c tk s : ByteArray) (lim : Int) : Prop := tk ++ s = c ∧ (c.size : Int) ≤ lim ∧ 0 ≤ lim ∧ lim ≤ 40
theorem ebJ_put {c tk s d : ByteArray} {lim : Int} (h : ebJ c tk s lim) (hd : (d.size : Int) ≤ lim - c.size) : ebJ (c ++ d) tk (s ++ d) lim := by
  obtain ⟨h1, h2, h3, h4⟩ := h
  refine ⟨by rw [← ba_append_assoc, h1], by rw [ba_size_append]; omega, h3, h4⟩
theorem ebJ_take {c tk s : ByteArray} {lim : Int} (h : ebJ c tk s lim) : ebJ c (tk ++ s) ⟨#[]⟩ lim := by
  obtain ⟨h1, h2, h3, h4⟩ := h
  exact ⟨by rw [ba_append_empty, h1], h2, h3, h4⟩
theorem ebJ_facts {c tk s : ByteArray} {lim : Int} (h : ebJ c tk s lim) : (c.size : Int) ≤ lim ∧ 0 ≤ lim ∧ lim ≤ 40 ∧ tk.size ≤ c.size ∧ c.size ≤ 40 ∧ s.size ≤ 40 ∧ c.extract 0 tk.size = tk := by
  obtain ⟨h1, h2, h3, h4⟩ := h
  have hz := ba_size_append tk s
  rw [h1] at hz
  exact ⟨h2, h3, h4, by omega, by omega, by omega, by rw [← h1]; exact ba_extract_left tk s⟩
theorem ebJ_all {c tk s : ByteArray} {lim : Int} (h : ebJ c tk s lim) : tk ++ s = c := h.1

set_option maxRecDepth 100000 in
set_option maxHeartbeats 4000000 in
/-- the loop and what is behind it -/
theorem walkEarlyBounds1 (w : World) (lim : Int) (l0 : 0 ≤ lim) (l1 : lim ≤ 40) (a : Option Addr) (len cap : Nat) (ss : List ByteArray) (hm : len ≤ maxLen)
    (hr : len = 0 ∨ ∃ b off, a = some ⟨b, off, none⟩ ∧ b < w.heap.size ∧ len ≤ maxLen ∧ ss.length = len ∧ (∀ i, i < len → (ss.getD i ByteArray.empty).size ≤ maxLen) ∧ ∀ i, i < len → w.cell? ⟨b, off + i, none⟩ = some (.string (ss.getD i ByteArray.empty))) (hE : ErrT w) :
    Calls Tryd.prog 4 #[.int .i64 lim, .slice a len cap] w fun e w' => e = .returned (.bool true) ∧ Below w.heap.size w w' := by
  unfold maxLen at hm
  have HR := hide hr
  clear hr
  have N0 : ∀ (W : World) (n : Int), EarlyAt (W.alloc (.cells #[.string ⟨#[]⟩, .int .i64 n] 71)) W.heap.size ⟨#[]⟩ n := fun W n => ObjAt.new _ _ _
  have HN := hide N0
  clear N0
  go_enter Tryd.func4, Tryd.ntmps4
  go_wp2_with fail
  refine (earlyNew_ok 3 _ (by omega) (by omega)).mono ?_
  rintro e w1 ⟨rfl, rfl⟩
  go_wp2_with fail
  refine (earlyPut_ok _ _ _ _ _ (HN.out _ _) (by decide) (by omega) (by decide)).mono ?_
  rintro e w1 ⟨rfl, ho1, hk1⟩
  have H1 := hide (show EarlyAt w1 w.heap.size ⟨#[97, 98]⟩ 1 from ho1)
  have hb1 : Below w.heap.size w w1 := bel_kept ((Below.refl _ _).alloc (Nat.le_refl _) _) hk1
  clear ho1 hk1
  go_wp2_with fail
  refine (earlyPut_full _ _ _ _ _ H1.out (by decide)).mono ?_
  rintro e w2 ⟨rfl, ho2, hk2⟩
  have H2 := hide ho2
  have hb2 : Below w.heap.size w w2 := bel_kept hb1 hk2
  clear ho2 hk2 H1 hb1
  go_wp2_with fail
  refine (error_any 4 4 w2 (hE.below hb2 hE.pos)).mono ?_
  rintro e w3 ⟨rfl, hb3'⟩
  have H3 := hide (ObjAt.below H2.out hb3')
  have hb3 := hb2.trans (hb3'.mono hb2.size)
  clear hb3' H2 hb2
  go_wp2_with fail
  refine (earlyTake _ _ _ _ H3.out).mono ?_
  rintro e w4 ⟨rfl, ho4, hk4⟩
  have H4 := hide ho4
  have hb4 : Below w.heap.size w w4 := bel_kept hb3 hk4
  clear ho4 hk4 H3 hb3
  go_wp2_with fail
  refine (earlyLeft _ _ _ _ H4.out).mono ?_
  rintro e w5 ⟨rfl, rfl⟩
  clear H4
  go_wp2_with fail
  refine (earlyNew_ok lim _ l0 l1).mono ?_
  rintro e w5 ⟨rfl, rfl⟩
  have hsz : w.heap.size ≤ w4.heap.size := hb4.size
  go_wp2_with fail
  go_loopw [9, 10, 11] (fun cs ts i wr => ∃ (k : Nat) (c tk s : ByteArray), cs = .string c ∧ ts = .string tk ∧ i = .int .i64 k ∧ k ≤ len ∧ k ≤ 40 ∧ ebJ c tk s lim ∧ EarlyAt wr w4.heap.size s (lim - c.size) ∧ Below w.heap.size w wr) (fun _ _ i _ => 40 - (intOf i).toNat)
  case atStart =>
    have e0 : lim - (((⟨#[]⟩ : ByteArray).size : Nat) : Int) = lim := by rw [show (⟨#[]⟩ : ByteArray).size = 0 from rfl]; omega
    exact ⟨0, ⟨#[]⟩, ⟨#[]⟩, ⟨#[]⟩, rfl, rfl, rfl, by omega, by omega, ⟨by decide, by rw [show (⟨#[]⟩ : ByteArray).size = 0 from rfl]; exact l0, l0, l1⟩, by rw [e0]; exact HN.out w4 lim, hb4.alloc hsz _⟩
  case round =>
    obtain ⟨k, c, tk, s, rfl, rfl, rfl, hk, hk2, hJ, ho, hb⟩ := hrel
    have HJ := hide hJ
    have Ho := hide ho
    clear ho hJ
    obtain ⟨f1, f2, f3, f4, f5, f6, f7⟩ := ebJ_facts HJ.out
    have F7 := hide f7
    clear f7
    by_cases h1 : k < len
    · by_cases h2 : k < 40
      · obtain ⟨b, off, ha, hlt, hds, hcl⟩ : ∃ b off, a = some ⟨b, off, none⟩ ∧ b < w.heap.size ∧ (ss.getD k ByteArray.empty).size ≤ maxLen ∧ w.cell? ⟨b, off + k, none⟩ = some (.string (ss.getD k ByteArray.empty)) := by
          rcases HR.out with h | ⟨b, off, h3, h4, h5, h6, h7, h8⟩
          · omega
          · exact ⟨b, off, h3, h4, h7 k h1, h8 k h1⟩
        subst ha
        obtain ⟨d, hd⟩ : ∃ d, d = ss.getD k ByteArray.empty := ⟨_, rfl⟩
        rw [← hd] at hds hcl
        clear hd
        unfold maxLen at hds
        have hcell : wr.cell? ⟨b, off + k, none⟩ = some (.string d) := (hb.cell (p := ⟨b, off + k, none⟩) hlt).trans hcl
        have Hcl := hide hcl
        clear hcl
        by_cases hfull : lim - c.size < d.size
        · have C := hide (earlyPut_full _ _ d _ _ Ho.out hfull)
          by_cases h3 : k % 3 = 1
          · have t3 : (((k : Nat) : Int) % 3 == 1) = true := by simp only [beq_iff_eq]; omega
            clear h3
            go_wp2_with fail
            refine (C.out).mono ?_
            rintro e w5 ⟨rfl, ho1, hk1⟩
            have hb5 : Below w.heap.size w w5 := bel_kept1 hb hk1 hsz hb.size
            have hcell5 : w5.cell? ⟨b, off + k, none⟩ = some (.string d) := (hb5.cell (p := ⟨b, off + k, none⟩) hlt).trans Hcl.out
            clear hk1 hcell
            have Ho1 := hide ho1
            clear ho1
            go_wp2_with fail
            refine (earlyTake _ _ _ _ Ho1.out).mono ?_
            rintro e w6 ⟨rfl, ho6, hk6⟩
            have hb6 : Below w.heap.size w w6 := bel_kept1 hb5 hk6 hsz hb5.size
            have HJ3' := ebJ_take HJ.out
            obtain ⟨t', ht'⟩ : ∃ t', t' = tk ++ s := ⟨_, rfl⟩
            rw [← ht'] at HJ3'
            have Ho3 := hide ho6
            have HJ3 := hide HJ3'
            clear HJ3' ho6 hk6 Ho1
            obtain ⟨k1, k2, k3, k4, k5, k6, k7⟩ := ebJ_facts HJ3.out
            have htk : tk ++ s = t' := ht'.symm
            clear ht'
            go_wp2
            go_roundw
            case rel => exact ⟨k + 1, c, t', ⟨#[]⟩, rfl, rfl, by go_num, by omega, by omega, HJ3.out, Ho3.out, hb6⟩
            case measure => simp [intOf]; omega
          · have t3 : (((k : Nat) : Int) % 3 == 1) = false := by rw [beq_eq_false_iff_ne]; omega
            clear h3
            go_wp2_with fail
            refine (C.out).mono ?_
            rintro e w5 ⟨rfl, ho1, hk1⟩
            have hb5 : Below w.heap.size w w5 := bel_kept1 hb hk1 hsz hb.size
            have hcell5 : w5.cell? ⟨b, off + k, none⟩ = some (.string d) := (hb5.cell (p := ⟨b, off + k, none⟩) hlt).trans Hcl.out
            clear hk1 hcell
            have Ho1 := hide ho1
            clear ho1
            have x7 := F7.out
            go_wp2
            go_roundw
            case rel => exact ⟨k + 1, c, tk, s, rfl, rfl, by go_num, by omega, by omega, HJ.out, Ho1.out, hb5⟩
            case measure => simp [intOf]; omega
        · have hput : (d.size : Int) ≤ lim - c.size := by omega
          have C := hide (earlyPut_ok _ _ d _ _ Ho.out hput (by omega) (by omega))
          clear hfull
          by_cases h3 : k % 3 = 1
          · have t3 : (((k : Nat) : Int) % 3 == 1) = true := by simp only [beq_iff_eq]; omega
            clear h3
            go_wp2_with fail
            refine (C.out).mono ?_
            rintro e w5 ⟨rfl, ho1, hk1⟩
            have hb5 : Below w.heap.size w w5 := bel_kept1 hb hk1 hsz hb.size
            have hcell5 : w5.cell? ⟨b, off + k, none⟩ = some (.string d) := (hb5.cell (p := ⟨b, off + k, none⟩) hlt).trans Hcl.out
            clear hk1 hcell
            have hz : ((c ++ d).size : Int) = c.size + d.size := by rw [ba_size_append]; rfl
            have HJ2' := ebJ_put HJ.out hput
            have Ho1' : EarlyAt w5 w4.heap.size (s ++ d) (lim - (c ++ d).size) := by rw [hz, show lim - (c.size + d.size : Int) = lim - c.size - d.size by omega]; exact ho1
            obtain ⟨c', hc'⟩ : ∃ c', c' = c ++ d := ⟨_, rfl⟩
            obtain ⟨s', hs'⟩ : ∃ s', s' = s ++ d := ⟨_, rfl⟩
            rw [← hc', ← hs'] at Ho1' HJ2'
            have Ho1 := hide Ho1'
            have HJ2 := hide HJ2'
            clear Ho1' HJ2' ho1 hz hs' Ho HJ
            obtain ⟨g1, g2, g3, g4, g5, g6, g7⟩ := ebJ_facts HJ2.out
            have G7 := hide g7
            have hcd : c ++ d = c' := hc'.symm
            clear g7 hc'
            go_wp2_with fail
            refine (earlyTake _ _ _ _ Ho1.out).mono ?_
            rintro e w6 ⟨rfl, ho6, hk6⟩
            have hb6 : Below w.heap.size w w6 := bel_kept1 hb5 hk6 hsz hb5.size
            have HJ3' := ebJ_take HJ2.out
            obtain ⟨t', ht'⟩ : ∃ t', t' = tk ++ s' := ⟨_, rfl⟩
            rw [← ht'] at HJ3'
            have Ho3 := hide ho6
            have HJ3 := hide HJ3'
            clear HJ3' ho6 hk6 Ho1
            obtain ⟨k1, k2, k3, k4, k5, k6, k7⟩ := ebJ_facts HJ3.out
            have htk : tk ++ s' = t' := ht'.symm
            clear ht'
            go_wp2
            go_roundw
            case rel => exact ⟨k + 1, c', t', ⟨#[]⟩, rfl, rfl, by go_num, by omega, by omega, HJ3.out, Ho3.out, hb6⟩
            case measure => simp [intOf]; omega
          · have t3 : (((k : Nat) : Int) % 3 == 1) = false := by rw [beq_eq_false_iff_ne]; omega
            clear h3
            go_wp2_with fail
            refine (C.out).mono ?_
            rintro e w5 ⟨rfl, ho1, hk1⟩
            have hb5 : Below w.heap.size w w5 := bel_kept1 hb hk1 hsz hb.size
            have hcell5 : w5.cell? ⟨b, off + k, none⟩ = some (.string d) := (hb5.cell (p := ⟨b, off + k, none⟩) hlt).trans Hcl.out
            clear hk1 hcell
            have hz : ((c ++ d).size : Int) = c.size + d.size := by rw [ba_size_append]; rfl
            have HJ2' := ebJ_put HJ.out hput
            have Ho1' : EarlyAt w5 w4.heap.size (s ++ d) (lim - (c ++ d).size) := by rw [hz, show lim - (c.size + d.size : Int) = lim - c.size - d.size by omega]; exact ho1
            obtain ⟨c', hc'⟩ : ∃ c', c' = c ++ d := ⟨_, rfl⟩
            obtain ⟨s', hs'⟩ : ∃ s', s' = s ++ d := ⟨_, rfl⟩
            rw [← hc', ← hs'] at Ho1' HJ2'
            have Ho1 := hide Ho1'
            have HJ2 := hide HJ2'
            clear Ho1' HJ2' ho1 hz hs' Ho HJ
            obtain ⟨g1, g2, g3, g4, g5, g6, g7⟩ := ebJ_facts HJ2.out
            have G7 := hide g7
            have hcd : c ++ d = c' := hc'.symm
            clear g7 hc'
            have x7 := G7.out
            go_wp2
            go_roundw
            case rel => exact ⟨k + 1, c', tk, s', rfl, rfl, by go_num, by omega, by omega, HJ2.out, Ho1.out, hb5⟩
            case measure => simp [intOf]; omega
      · have hall := ebJ_all HJ.out
        go_wp2_with fail
        refine (earlyTake _ _ _ _ Ho.out).mono ?_
        rintro e w6 ⟨rfl, ho6, hk6⟩
        have hb6 : Below w.heap.size w w6 := bel_kept1 hb hk6 hsz hb.size
        have Ho6 := hide ho6
        clear ho6 hk6
        go_wp2_with fail
        refine (earlyLeft _ _ _ _ Ho6.out).mono ?_
        rintro e w7 ⟨rfl, rfl⟩
        go_wp2
        go_ret
        exact ⟨rfl, hb6⟩
    · have hall := ebJ_all HJ.out
      go_wp2_with fail
      refine (earlyTake _ _ _ _ Ho.out).mono ?_
      rintro e w6 ⟨rfl, ho6, hk6⟩
      have hb6 : Below w.heap.size w w6 := bel_kept1 hb hk6 hsz hb.size
      have Ho6 := hide ho6
      clear ho6 hk6
      go_wp2_with fail
      refine (earlyLeft _ _ _ _ Ho6.out).mono ?_
      rintro e w7 ⟨rfl, rfl⟩
      go_wp2
      go_ret
      exact ⟨rfl, hb6⟩

set_option maxRecDepth 100000 in
set_option maxHeartbeats 1000000 in
/-- a limit that may not be -/
theorem walkEarlyBounds0 (w : World) (lim : Int) (hl : lim < 0 ∨ 40 < lim) (a : Option Addr) (len cap : Nat) (hE : ErrT w) :
    Calls Tryd.prog 4 #[.int .i64 lim, .slice a len cap] w fun e w' => e = .returned (.bool true) ∧ Below w.heap.size w w' := by
  have NB := hide (fun W => earlyNew_bad lim W hl)
  have N0 : ∀ (W : World) (n : Int), EarlyAt (W.alloc (.cells #[.string ⟨#[]⟩, .int .i64 n] 71)) W.heap.size ⟨#[]⟩ n := fun W n => ObjAt.new _ _ _
  have HN := hide N0
  clear N0
  rcases hl with hl | hl
  all_goals
    go_enter Tryd.func4, Tryd.ntmps4
    go_wp2_with fail
    refine (earlyNew_ok 3 _ (by omega) (by omega)).mono ?_
    rintro e w1 ⟨rfl, rfl⟩
    go_wp2_with fail
    refine (earlyPut_ok _ _ _ _ _ (HN.out _ _) (by decide) (by omega) (by decide)).mono ?_
    rintro e w1 ⟨rfl, ho1, hk1⟩
    have H1 := hide (show EarlyAt w1 w.heap.size ⟨#[97, 98]⟩ 1 from ho1)
    have hb1 : Below w.heap.size w w1 := bel_kept ((Below.refl _ _).alloc (Nat.le_refl _) _) hk1
    clear ho1 hk1
    go_wp2_with fail
    refine (earlyPut_full _ _ _ _ _ H1.out (by decide)).mono ?_
    rintro e w2 ⟨rfl, ho2, hk2⟩
    have H2 := hide ho2
    have hb2 : Below w.heap.size w w2 := bel_kept hb1 hk2
    clear ho2 hk2 H1 hb1
    go_wp2_with fail
    refine (error_any 4 4 w2 (hE.below hb2 hE.pos)).mono ?_
    rintro e w3 ⟨rfl, hb3'⟩
    have H3 := hide (ObjAt.below H2.out hb3')
    have hb3 := hb2.trans (hb3'.mono hb2.size)
    clear hb3' H2 hb2
    go_wp2_with fail
    refine (earlyTake _ _ _ _ H3.out).mono ?_
    rintro e w4 ⟨rfl, ho4, hk4⟩
    have H4 := hide ho4
    have hb4 : Below w.heap.size w w4 := bel_kept hb3 hk4
    clear ho4 hk4 H3 hb3
    go_wp2_with fail
    refine (earlyLeft _ _ _ _ H4.out).mono ?_
    rintro e w5 ⟨rfl, rfl⟩
    clear H4
    go_wp2_with fail
    refine (NB.out _).mono ?_
    rintro e w5 ⟨rfl, rfl⟩
    go_wp2
    go_ret
    exact ⟨rfl, hb4⟩
theorem walkEarlyBounds (w : World) (lim : Int) (_w0 : (Lit.int .i64 lim).wf = true) (a : Option Addr) (len cap : Nat) (ss : List ByteArray) (_hl : len ≤ cap) (_hc : cap ≤ maxLen) (hr : StrRow w a len ss) (hE : ErrT w) :
    Calls Tryd.prog 4 #[.int .i64 lim, .slice a len cap] w fun e w' => e = .returned (.bool true) ∧ Below w.heap.size w w' := by
  by_cases h : lim < 0 ∨ 40 < lim
  · exact walkEarlyBounds0 w lim h a len cap hE
  · exact walkEarlyBounds1 w lim (by omega) (by omega) a len cap ss hr.2.1 hr.split hE
end Go.Proofs.YtnfgeidiglldkaaDoor
