/- The walk of LogTwice. -/
import Derived.Test.YtlnehoedflbifaaDoorLog2
import Derived.Test.YtlnehoedflbifaaDoorErr
namespace Go.Proofs.YtlnehoedflbifaaDoor
open Go.RowKit

theorem lt_again {n u now : Int} (h : spMoreE [] n u now = 0) : spMoreE [(n, u)] n u now = 7 := by
  rcases spMore_cases [] n u now with ⟨_, h1, h2, h3, h4, _⟩ | h1
  · unfold spMoreE
    rw [if_neg (by simp [h1, h2, h3]), if_neg (by omega), if_pos]
    simp [spDrop, h4]
  · exact absurd h h1
theorem kept_below {S : List Nat} {B : Nat} {a w w' : World} (h : Below B a w) (hk : Kept S w w') (hS : ∀ x, x ∈ S → B ≤ x) (hB : B ≤ w.heap.size) : Below B a w' := h.trans (hk.below hB hS)
set_option maxRecDepth 100000 in
set_option maxHeartbeats 4000000 in
theorem walkLogTwice (w : World) (n : Int) (_w0 : (Lit.int .i64 n).wf = true) (u : Int) (_w1 : (Lit.int .i64 u).wf = true) (now : Int) (_w2 : (Lit.int .i64 now).wf = true) (hE : ErrT w) (hT : TabW w) :
    Calls Tryd.prog 3 #[.int .i64 n, .int .i64 u, .int .i64 now] w fun e w' => e = .returned (.bool true) ∧ Below w.heap.size w w' := by
  clear _w0 _w1 _w2
  obtain ⟨c, hc⟩ : ∃ c, spMoreE [] n u now = c := ⟨_, rfl⟩
  by_cases h0 : c = 0
  · subst h0
    obtain ⟨g1, g2, g3⟩ := sp_nums hc
    have hrs := (recB_size g1 g2 g3).1
    have S1 := hide (fun (b : Nat) (W : World) (hb : Below w.heap.size w W) (h : LG W b (.slice none 0 0) [] ByteArray.empty 0 0 (-1) false) => lgSpend_ok (s' := recB n u now) (ns := [(n, u)]) (left' := -1) (by simp [spDrop]) hc (by simp) (by decide) (by decide) (by decide) (by decide) stepL_neg (by decide) (by simp) W (hT.next hb) h)
    have S2 := hide (fun (b : Nat) (v : Value) (W : World) (h : LG W b v [(n, u)] (recB n u now) (0 + 1) 0 (-1) false) => lgSpend_bad (lt_again hc) (by decide) W h)
    generalize recB n u now = s at S1 S2 hrs
    have HE := hide (fun W (hb : Below w.heap.size w W) => error_any 7 7 W (hE.below hb hE.pos))
    clear hc g1 g2 g3 hE hT
    go_enter Tryd.func3, Tryd.ntmps3
    go_wp2_with fail
    refine (lgNew _).mono ?_
    rintro e w1 ⟨b, rfl, hb, hl1, hb1⟩
    go_wp2_with fail
    refine (S1.out b _ hb1 hl1).mono ?_
    rintro e w2 ⟨rfl, v', hl2, _, hk2⟩
    have hb2 : Below w.heap.size w w2 := kept_below hb1 hk2 (by simp; exact hb) hb1.size
    go_wp2_with fail
    refine (lgBytes _ hl2.1).mono ?_
    rintro e w' ⟨rfl, rfl⟩
    go_wp2_with fail
    refine (S2.out b _ _ hl2).mono ?_
    rintro e w3 ⟨rfl, hb3⟩
    have hl3 := hl2.below hb3
    have hB3 : Below w.heap.size w w3 := hb2.trans (hb3.mono hb2.size)
    clear hl1 hl2 hb3 hk2 S1 S2
    have hrs2 : (2 : Int) ≤ (s.size : Int) := by omega
    go_wp2_with fail
    refine (HE.out _ hB3).mono ?_
    rintro e w4 ⟨rfl, hb4⟩
    have hl4 := hl3.below hb4
    have hB4 : Below w.heap.size w w4 := hB3.trans (hb4.mono hB3.size)
    go_wp2_with fail
    refine (lgBytes _ hl4.1).mono ?_
    rintro e w' ⟨rfl, rfl⟩
    go_wp2
    go_ret
    exact ⟨by simp, hB4⟩
  · have S1 := hide (fun (b : Nat) (W : World) (h : LG W b (.slice none 0 0) [] ByteArray.empty 0 0 (-1) false) => lgSpend_bad hc h0 W h)
    have t0 : (c != 0) = true := bne_iff_ne.2 h0
    clear hc h0 hE hT
    go_enter Tryd.func3, Tryd.ntmps3
    go_wp2_with fail
    refine (lgNew _).mono ?_
    rintro e w1 ⟨b, rfl, hb, hl1, hb1⟩
    go_wp2_with fail
    refine (S1.out b _ hl1).mono ?_
    rintro e w2 ⟨rfl, hb2⟩
    have hl2 := hl1.below hb2
    have hB2 : Below w.heap.size w w2 := hb1.trans (hb2.mono hb1.size)
    go_wp2_with fail
    refine (lgBytes _ hl2.1).mono ?_
    rintro e w' ⟨rfl, rfl⟩
    go_wp2_with fail
    refine (S1.out b _ hl2).mono ?_
    rintro e w3 ⟨rfl, hb3⟩
    have hl3 := hl2.below hb3
    have hB3 : Below w.heap.size w w3 := hB2.trans (hb3.mono hB2.size)
    clear hl1 hl2 hb3 hb2 S1
    go_wp2_with fail
    refine (lgBytes _ hl3.1).mono ?_
    rintro e w' ⟨rfl, rfl⟩
    go_wp2
    go_ret
    exact ⟨by simp, hB3⟩
end Go.Proofs.YtlnehoedflbifaaDoor
