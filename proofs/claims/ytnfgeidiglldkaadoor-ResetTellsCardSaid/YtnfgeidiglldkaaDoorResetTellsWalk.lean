/- The walk of ResetTells. -/
import Derived.Test.YtnfgeidiglldkaaDoorReset
import Derived.Test.YtnfgeidiglldkaaDoorRConn
import Derived.Test.YtnfgeidiglldkaaDoorRef1
import Derived.Test.YtnfgeidiglldkaaDoorErr
namespace Go.Proofs.YtnfgeidiglldkaaDoor
open Go.RowKit

theorem resetIs_eq1 {x s n t c : Int} {v : Bool} (h : resetIsN x s n t = (v, c)) (w : World) : Calls Tryd.prog 31 #[.int .i64 x, .agg #[.int .i64 s, .int .i64 n], .int .i64 t] w fun e w' => e = .returned (.tuple #[.bool v, errV c]) ∧ Below w.heap.size w w' := by
  have g := resetIs x s n t w
  rwa [h] at g

set_option maxHeartbeats 1000000 in
theorem walkResetTells (w : World) (x : Int) (_w0 : (Lit.int .i64 x).wf = true) (s n : Int) (_w1 : (Lit.int .i64 s).wf = true) (_w2 : (Lit.int .i64 n).wf = true) (t : Int) (_w3 : (Lit.int .i64 t).wf = true) (hE : ErrT w) :
    Calls Tryd.prog 8 #[.int .i64 x, .agg #[.int .i64 s, .int .i64 n], .int .i64 t] w fun e w' => e = .returned (.bool true) ∧ Below w.heap.size w w' := by
  clear _w0 _w1 _w2 _w3
  have RS := hide (fun W => rIn x W)
  have RC := hide (fun W => rConn s n W)
  have RI := hide (fun W => rIn t W)
  rcases resetN_cases x s n with ⟨v, hv, hx, hc, hvt⟩ | ⟨hv, hbad⟩
  · rw [hx] at RS
    rw [hc] at RC
    have OF : Hid (∀ W, Calls Tryd.prog 30 #[.int .i64 x, .agg #[.int .i64 s, .int .i64 n]] W fun e w' => e = .returned (.tuple #[.int .i64 v, .nilIface]) ∧ Below W.heap.size W w') := hide (resetOf_eq (c := 0) hv)
    obtain ⟨m, hmm⟩ : ∃ m, m = connN s n := ⟨_, rfl⟩
    have hvi := connN_in s n hc
    have NB : Hid (∀ W, Calls Tryd.prog 23 #[.agg #[.int .i64 s, .int .i64 n]] W fun e w' => e = .returned (.int .i64 m) ∧ Below W.heap.size W w') := by intro W; rw [hmm]; exact rNumber s n W hc
    have RG : Hid (∀ W b, W.cell? ⟨b, 0, none⟩ = some (.int .i64 3) → W.cell? ⟨b, 1, none⟩ = some (.int .i64 m) → Calls Tryd.prog 29 #[.int .i64 x, .slice (some ⟨b, 0, none⟩) 2 2] W fun e w' => e = .returned (.int .i64 v) ∧ W = w') := by
      intro W b h0 h1
      rw [hvt, ← hmm]
      refine rTag_row x [3, m] b 0 2 W (inB_true.1 hx) (by rw [hmm]; simp; omega) (by simp) ?_
      intro i hi
      match i, hi with
      | 0, _ => simpa using h0
      | 1, _ => simpa using h1
    cases ht : inB t
    · have IS : Hid (∀ W, Calls Tryd.prog 31 #[.int .i64 x, .agg #[.int .i64 s, .int .i64 n], .int .i64 t] W fun e w' => e = .returned (.tuple #[.bool false, .iface 68 (.int .i64 1)]) ∧ Below W.heap.size W w') := hide (resetIs_eq1 (c := 1) (by unfold resetIsN; rw [if_neg (by simp [ht])]))
      rw [ht] at RI
      clear hv hx hc hvt hmm hvi ht
      go_enter Tryd.func8, Tryd.ntmps8
      go_wp2_with fail
      refine (RS.out _).mono ?_
      rintro e w101 ⟨rfl, rfl⟩
      go_wp2_with fail
      refine (RC.out _).mono ?_
      rintro e w2 ⟨rfl, hb2⟩
      have hB2 : Below w.heap.size w w2 := by
        refine Below.trans ?_ (Below.mono hb2 ?_)
        · go_grown
        · first | omega | (simp; done) | (simp; omega)
      have hz2_0 : w.heap.size < w2.heap.size := by have := hb2.size; first | omega | (simp at this; omega)
      have hy2 : w.heap.size ≤ w2.heap.size := hB2.size
      obtain ⟨c2, d2⟩ := bcell hb2
      go_wp2_with fail
      refine (NB.out _).mono ?_
      rintro e w3 ⟨rfl, hb3⟩
      have hB3 : Below w.heap.size w w3 := by
        refine Below.trans ?_ (Below.mono hb3 ?_)
        · go_grown
        · first | omega | (simp; done) | (simp; omega)
      have hz3_0 : w.heap.size < w3.heap.size := by have := hb3.size; first | omega | (simp at this; omega)
      have hy3 : w.heap.size ≤ w3.heap.size := hB3.size
      obtain ⟨c3, d3⟩ := bcell hb3
      go_wp2_with fail
      refine (RG.out _ _ (by simp) (by simp)).mono ?_
      rintro e w104 ⟨rfl, rfl⟩
      go_wp2_with fail
      refine (OF.out _).mono ?_
      rintro e w5 ⟨rfl, hb5⟩
      have hB5 : Below w.heap.size w w5 := by
        refine Below.trans ?_ (Below.mono hb5 ?_)
        · go_grown
        · first | omega | (simp; done) | (simp; omega)
      have hz5_0 : w.heap.size < w5.heap.size := by have := hb5.size; first | omega | (simp at this; omega)
      have hy5 : w.heap.size ≤ w5.heap.size := hB5.size
      obtain ⟨c5, d5⟩ := bcell hb5
      go_wp2_with fail
      refine (error_any 0 0 _ (hE.below (B := w.heap.size) (by go_grown) hE.pos)).mono ?_
      rintro e w6 ⟨rfl, hb6⟩
      have hB6 : Below w.heap.size w w6 := by
        refine Below.trans ?_ (Below.mono hb6 ?_)
        · go_grown
        · first | omega | (simp; done) | (simp; omega)
      have hz6_0 : w.heap.size < w6.heap.size := by have := hb6.size; first | omega | (simp at this; omega)
      have hy6 : w.heap.size ≤ w6.heap.size := hB6.size
      obtain ⟨c6, d6⟩ := bcell hb6
      go_wp2_with fail
      refine (RI.out _).mono ?_
      rintro e w107 ⟨rfl, rfl⟩
      go_wp2_with fail
      refine (IS.out _).mono ?_
      rintro e w8 ⟨rfl, hb8⟩
      have hB8 : Below w.heap.size w w8 := by
        refine Below.trans ?_ (Below.mono hb8 ?_)
        · go_grown
        · first | omega | (simp; done) | (simp; omega)
      have hz8_0 : w.heap.size < w8.heap.size := by have := hb8.size; first | omega | (simp at this; omega)
      have hy8 : w.heap.size ≤ w8.heap.size := hB8.size
      obtain ⟨c8, d8⟩ := bcell hb8
      go_wp2_with fail
      refine (error_any 1 1 _ (hE.below (B := w.heap.size) (by go_grown) hE.pos)).mono ?_
      rintro e w9 ⟨rfl, hb9⟩
      have hB9 : Below w.heap.size w w9 := by
        refine Below.trans ?_ (Below.mono hb9 ?_)
        · go_grown
        · first | omega | (simp; done) | (simp; omega)
      have hz9_0 : w.heap.size < w9.heap.size := by have := hb9.size; first | omega | (simp at this; omega)
      have hy9 : w.heap.size ≤ w9.heap.size := hB9.size
      obtain ⟨c9, d9⟩ := bcell hb9
      go_wp2
      go_ret
      exact ⟨rfl, by go_grown⟩
    · obtain ⟨q, hq⟩ : ∃ q, q = (v == t) := ⟨_, rfl⟩
      have IS : Hid (∀ W, Calls Tryd.prog 31 #[.int .i64 x, .agg #[.int .i64 s, .int .i64 n], .int .i64 t] W fun e w' => e = .returned (.tuple #[.bool q, .nilIface]) ∧ Below W.heap.size W w') := hide (resetIs_eq1 (c := 0) (by unfold resetIsN; rw [hv, if_pos ⟨rfl, ht⟩, hq]))
      have hq2 : (t == v) = q := by rw [hq, Bool.eq_iff_iff]; simp only [beq_iff_eq]; exact eq_comm
      rw [ht] at RI
      clear hv hx hc hvt hmm hvi ht hq
      go_enter Tryd.func8, Tryd.ntmps8
      go_wp2_with fail
      refine (RS.out _).mono ?_
      rintro e w101 ⟨rfl, rfl⟩
      go_wp2_with fail
      refine (RC.out _).mono ?_
      rintro e w2 ⟨rfl, hb2⟩
      have hB2 : Below w.heap.size w w2 := by
        refine Below.trans ?_ (Below.mono hb2 ?_)
        · go_grown
        · first | omega | (simp; done) | (simp; omega)
      have hz2_0 : w.heap.size < w2.heap.size := by have := hb2.size; first | omega | (simp at this; omega)
      have hy2 : w.heap.size ≤ w2.heap.size := hB2.size
      obtain ⟨c2, d2⟩ := bcell hb2
      go_wp2_with fail
      refine (NB.out _).mono ?_
      rintro e w3 ⟨rfl, hb3⟩
      have hB3 : Below w.heap.size w w3 := by
        refine Below.trans ?_ (Below.mono hb3 ?_)
        · go_grown
        · first | omega | (simp; done) | (simp; omega)
      have hz3_0 : w.heap.size < w3.heap.size := by have := hb3.size; first | omega | (simp at this; omega)
      have hy3 : w.heap.size ≤ w3.heap.size := hB3.size
      obtain ⟨c3, d3⟩ := bcell hb3
      go_wp2_with fail
      refine (RG.out _ _ (by simp) (by simp)).mono ?_
      rintro e w104 ⟨rfl, rfl⟩
      go_wp2_with fail
      refine (OF.out _).mono ?_
      rintro e w5 ⟨rfl, hb5⟩
      have hB5 : Below w.heap.size w w5 := by
        refine Below.trans ?_ (Below.mono hb5 ?_)
        · go_grown
        · first | omega | (simp; done) | (simp; omega)
      have hz5_0 : w.heap.size < w5.heap.size := by have := hb5.size; first | omega | (simp at this; omega)
      have hy5 : w.heap.size ≤ w5.heap.size := hB5.size
      obtain ⟨c5, d5⟩ := bcell hb5
      go_wp2_with fail
      refine (error_any 0 0 _ (hE.below (B := w.heap.size) (by go_grown) hE.pos)).mono ?_
      rintro e w6 ⟨rfl, hb6⟩
      have hB6 : Below w.heap.size w w6 := by
        refine Below.trans ?_ (Below.mono hb6 ?_)
        · go_grown
        · first | omega | (simp; done) | (simp; omega)
      have hz6_0 : w.heap.size < w6.heap.size := by have := hb6.size; first | omega | (simp at this; omega)
      have hy6 : w.heap.size ≤ w6.heap.size := hB6.size
      obtain ⟨c6, d6⟩ := bcell hb6
      go_wp2_with fail
      refine (RI.out _).mono ?_
      rintro e w107 ⟨rfl, rfl⟩
      go_wp2_with fail
      refine (IS.out _).mono ?_
      rintro e w8 ⟨rfl, hb8⟩
      have hB8 : Below w.heap.size w w8 := by
        refine Below.trans ?_ (Below.mono hb8 ?_)
        · go_grown
        · first | omega | (simp; done) | (simp; omega)
      have hz8_0 : w.heap.size < w8.heap.size := by have := hb8.size; first | omega | (simp at this; omega)
      have hy8 : w.heap.size ≤ w8.heap.size := hB8.size
      obtain ⟨c8, d8⟩ := bcell hb8
      go_wp2_with fail
      refine (error_any 0 0 _ (hE.below (B := w.heap.size) (by go_grown) hE.pos)).mono ?_
      rintro e w9 ⟨rfl, hb9⟩
      have hB9 : Below w.heap.size w w9 := by
        refine Below.trans ?_ (Below.mono hb9 ?_)
        · go_grown
        · first | omega | (simp; done) | (simp; omega)
      have hz9_0 : w.heap.size < w9.heap.size := by have := hb9.size; first | omega | (simp at this; omega)
      have hy9 : w.heap.size ≤ w9.heap.size := hB9.size
      obtain ⟨c9, d9⟩ := bcell hb9
      go_wp2
      go_ret
      exact ⟨rfl, by go_grown⟩
  · have OF : Hid (∀ W, Calls Tryd.prog 30 #[.int .i64 x, .agg #[.int .i64 s, .int .i64 n]] W fun e w' => e = .returned (.tuple #[.int .i64 0, .iface 68 (.int .i64 1)]) ∧ Below W.heap.size W w') := hide (resetOf_eq (c := 1) hv)
    have IS : Hid (∀ W, Calls Tryd.prog 31 #[.int .i64 x, .agg #[.int .i64 s, .int .i64 n], .int .i64 t] W fun e w' => e = .returned (.tuple #[.bool false, .iface 68 (.int .i64 1)]) ∧ Below W.heap.size W w') := hide (resetIs_eq1 (c := 1) (by unfold resetIsN; rw [if_neg (by simp [hv])]))
    clear hv
    cases hx : inB x
    · rw [hx] at RS
      clear hx hbad
      cases hc : connB s n
      · rw [hc] at RC
        clear hc
        cases ht : inB t
        · rw [ht] at RI
          clear ht
          go_enter Tryd.func8, Tryd.ntmps8
          go_wp2_with fail
          refine (RS.out _).mono ?_
          rintro e w101 ⟨rfl, rfl⟩
          go_wp2_with fail
          refine (RC.out _).mono ?_
          rintro e w2 ⟨rfl, hb2⟩
          have hB2 : Below w.heap.size w w2 := by
            refine Below.trans ?_ (Below.mono hb2 ?_)
            · go_grown
            · first | omega | (simp; done) | (simp; omega)
          have hz2_0 : w.heap.size < w2.heap.size := by have := hb2.size; first | omega | (simp at this; omega)
          have hy2 : w.heap.size ≤ w2.heap.size := hB2.size
          obtain ⟨c2, d2⟩ := bcell hb2
          go_wp2_with fail
          refine (OF.out _).mono ?_
          rintro e w3 ⟨rfl, hb3⟩
          have hB3 : Below w.heap.size w w3 := by
            refine Below.trans ?_ (Below.mono hb3 ?_)
            · go_grown
            · first | omega | (simp; done) | (simp; omega)
          have hz3_0 : w.heap.size < w3.heap.size := by have := hb3.size; first | omega | (simp at this; omega)
          have hy3 : w.heap.size ≤ w3.heap.size := hB3.size
          obtain ⟨c3, d3⟩ := bcell hb3
          go_wp2_with fail
          refine (error_any 1 1 _ (hE.below (B := w.heap.size) (by go_grown) hE.pos)).mono ?_
          rintro e w4 ⟨rfl, hb4⟩
          have hB4 : Below w.heap.size w w4 := by
            refine Below.trans ?_ (Below.mono hb4 ?_)
            · go_grown
            · first | omega | (simp; done) | (simp; omega)
          have hz4_0 : w.heap.size < w4.heap.size := by have := hb4.size; first | omega | (simp at this; omega)
          have hy4 : w.heap.size ≤ w4.heap.size := hB4.size
          obtain ⟨c4, d4⟩ := bcell hb4
          go_wp2_with fail
          refine (RI.out _).mono ?_
          rintro e w105 ⟨rfl, rfl⟩
          go_wp2_with fail
          refine (IS.out _).mono ?_
          rintro e w6 ⟨rfl, hb6⟩
          have hB6 : Below w.heap.size w w6 := by
            refine Below.trans ?_ (Below.mono hb6 ?_)
            · go_grown
            · first | omega | (simp; done) | (simp; omega)
          have hz6_0 : w.heap.size < w6.heap.size := by have := hb6.size; first | omega | (simp at this; omega)
          have hy6 : w.heap.size ≤ w6.heap.size := hB6.size
          obtain ⟨c6, d6⟩ := bcell hb6
          go_wp2_with fail
          refine (error_any 1 1 _ (hE.below (B := w.heap.size) (by go_grown) hE.pos)).mono ?_
          rintro e w7 ⟨rfl, hb7⟩
          have hB7 : Below w.heap.size w w7 := by
            refine Below.trans ?_ (Below.mono hb7 ?_)
            · go_grown
            · first | omega | (simp; done) | (simp; omega)
          have hz7_0 : w.heap.size < w7.heap.size := by have := hb7.size; first | omega | (simp at this; omega)
          have hy7 : w.heap.size ≤ w7.heap.size := hB7.size
          obtain ⟨c7, d7⟩ := bcell hb7
          go_wp2
          go_ret
          exact ⟨rfl, by go_grown⟩
        · rw [ht] at RI
          clear ht
          go_enter Tryd.func8, Tryd.ntmps8
          go_wp2_with fail
          refine (RS.out _).mono ?_
          rintro e w101 ⟨rfl, rfl⟩
          go_wp2_with fail
          refine (RC.out _).mono ?_
          rintro e w2 ⟨rfl, hb2⟩
          have hB2 : Below w.heap.size w w2 := by
            refine Below.trans ?_ (Below.mono hb2 ?_)
            · go_grown
            · first | omega | (simp; done) | (simp; omega)
          have hz2_0 : w.heap.size < w2.heap.size := by have := hb2.size; first | omega | (simp at this; omega)
          have hy2 : w.heap.size ≤ w2.heap.size := hB2.size
          obtain ⟨c2, d2⟩ := bcell hb2
          go_wp2_with fail
          refine (OF.out _).mono ?_
          rintro e w3 ⟨rfl, hb3⟩
          have hB3 : Below w.heap.size w w3 := by
            refine Below.trans ?_ (Below.mono hb3 ?_)
            · go_grown
            · first | omega | (simp; done) | (simp; omega)
          have hz3_0 : w.heap.size < w3.heap.size := by have := hb3.size; first | omega | (simp at this; omega)
          have hy3 : w.heap.size ≤ w3.heap.size := hB3.size
          obtain ⟨c3, d3⟩ := bcell hb3
          go_wp2_with fail
          refine (error_any 1 1 _ (hE.below (B := w.heap.size) (by go_grown) hE.pos)).mono ?_
          rintro e w4 ⟨rfl, hb4⟩
          have hB4 : Below w.heap.size w w4 := by
            refine Below.trans ?_ (Below.mono hb4 ?_)
            · go_grown
            · first | omega | (simp; done) | (simp; omega)
          have hz4_0 : w.heap.size < w4.heap.size := by have := hb4.size; first | omega | (simp at this; omega)
          have hy4 : w.heap.size ≤ w4.heap.size := hB4.size
          obtain ⟨c4, d4⟩ := bcell hb4
          go_wp2_with fail
          refine (RI.out _).mono ?_
          rintro e w105 ⟨rfl, rfl⟩
          go_wp2_with fail
          refine (IS.out _).mono ?_
          rintro e w6 ⟨rfl, hb6⟩
          have hB6 : Below w.heap.size w w6 := by
            refine Below.trans ?_ (Below.mono hb6 ?_)
            · go_grown
            · first | omega | (simp; done) | (simp; omega)
          have hz6_0 : w.heap.size < w6.heap.size := by have := hb6.size; first | omega | (simp at this; omega)
          have hy6 : w.heap.size ≤ w6.heap.size := hB6.size
          obtain ⟨c6, d6⟩ := bcell hb6
          go_wp2_with fail
          refine (error_any 1 1 _ (hE.below (B := w.heap.size) (by go_grown) hE.pos)).mono ?_
          rintro e w7 ⟨rfl, hb7⟩
          have hB7 : Below w.heap.size w w7 := by
            refine Below.trans ?_ (Below.mono hb7 ?_)
            · go_grown
            · first | omega | (simp; done) | (simp; omega)
          have hz7_0 : w.heap.size < w7.heap.size := by have := hb7.size; first | omega | (simp at this; omega)
          have hy7 : w.heap.size ≤ w7.heap.size := hB7.size
          obtain ⟨c7, d7⟩ := bcell hb7
          go_wp2
          go_ret
          exact ⟨rfl, by go_grown⟩
      · rw [hc] at RC
        clear hc
        cases ht : inB t
        · rw [ht] at RI
          clear ht
          go_enter Tryd.func8, Tryd.ntmps8
          go_wp2_with fail
          refine (RS.out _).mono ?_
          rintro e w101 ⟨rfl, rfl⟩
          go_wp2_with fail
          refine (RC.out _).mono ?_
          rintro e w2 ⟨rfl, hb2⟩
          have hB2 : Below w.heap.size w w2 := by
            refine Below.trans ?_ (Below.mono hb2 ?_)
            · go_grown
            · first | omega | (simp; done) | (simp; omega)
          have hz2_0 : w.heap.size < w2.heap.size := by have := hb2.size; first | omega | (simp at this; omega)
          have hy2 : w.heap.size ≤ w2.heap.size := hB2.size
          obtain ⟨c2, d2⟩ := bcell hb2
          go_wp2_with fail
          refine (OF.out _).mono ?_
          rintro e w3 ⟨rfl, hb3⟩
          have hB3 : Below w.heap.size w w3 := by
            refine Below.trans ?_ (Below.mono hb3 ?_)
            · go_grown
            · first | omega | (simp; done) | (simp; omega)
          have hz3_0 : w.heap.size < w3.heap.size := by have := hb3.size; first | omega | (simp at this; omega)
          have hy3 : w.heap.size ≤ w3.heap.size := hB3.size
          obtain ⟨c3, d3⟩ := bcell hb3
          go_wp2_with fail
          refine (error_any 1 1 _ (hE.below (B := w.heap.size) (by go_grown) hE.pos)).mono ?_
          rintro e w4 ⟨rfl, hb4⟩
          have hB4 : Below w.heap.size w w4 := by
            refine Below.trans ?_ (Below.mono hb4 ?_)
            · go_grown
            · first | omega | (simp; done) | (simp; omega)
          have hz4_0 : w.heap.size < w4.heap.size := by have := hb4.size; first | omega | (simp at this; omega)
          have hy4 : w.heap.size ≤ w4.heap.size := hB4.size
          obtain ⟨c4, d4⟩ := bcell hb4
          go_wp2_with fail
          refine (RI.out _).mono ?_
          rintro e w105 ⟨rfl, rfl⟩
          go_wp2_with fail
          refine (IS.out _).mono ?_
          rintro e w6 ⟨rfl, hb6⟩
          have hB6 : Below w.heap.size w w6 := by
            refine Below.trans ?_ (Below.mono hb6 ?_)
            · go_grown
            · first | omega | (simp; done) | (simp; omega)
          have hz6_0 : w.heap.size < w6.heap.size := by have := hb6.size; first | omega | (simp at this; omega)
          have hy6 : w.heap.size ≤ w6.heap.size := hB6.size
          obtain ⟨c6, d6⟩ := bcell hb6
          go_wp2_with fail
          refine (error_any 1 1 _ (hE.below (B := w.heap.size) (by go_grown) hE.pos)).mono ?_
          rintro e w7 ⟨rfl, hb7⟩
          have hB7 : Below w.heap.size w w7 := by
            refine Below.trans ?_ (Below.mono hb7 ?_)
            · go_grown
            · first | omega | (simp; done) | (simp; omega)
          have hz7_0 : w.heap.size < w7.heap.size := by have := hb7.size; first | omega | (simp at this; omega)
          have hy7 : w.heap.size ≤ w7.heap.size := hB7.size
          obtain ⟨c7, d7⟩ := bcell hb7
          go_wp2
          go_ret
          exact ⟨rfl, by go_grown⟩
        · rw [ht] at RI
          clear ht
          go_enter Tryd.func8, Tryd.ntmps8
          go_wp2_with fail
          refine (RS.out _).mono ?_
          rintro e w101 ⟨rfl, rfl⟩
          go_wp2_with fail
          refine (RC.out _).mono ?_
          rintro e w2 ⟨rfl, hb2⟩
          have hB2 : Below w.heap.size w w2 := by
            refine Below.trans ?_ (Below.mono hb2 ?_)
            · go_grown
            · first | omega | (simp; done) | (simp; omega)
          have hz2_0 : w.heap.size < w2.heap.size := by have := hb2.size; first | omega | (simp at this; omega)
          have hy2 : w.heap.size ≤ w2.heap.size := hB2.size
          obtain ⟨c2, d2⟩ := bcell hb2
          go_wp2_with fail
          refine (OF.out _).mono ?_
          rintro e w3 ⟨rfl, hb3⟩
          have hB3 : Below w.heap.size w w3 := by
            refine Below.trans ?_ (Below.mono hb3 ?_)
            · go_grown
            · first | omega | (simp; done) | (simp; omega)
          have hz3_0 : w.heap.size < w3.heap.size := by have := hb3.size; first | omega | (simp at this; omega)
          have hy3 : w.heap.size ≤ w3.heap.size := hB3.size
          obtain ⟨c3, d3⟩ := bcell hb3
          go_wp2_with fail
          refine (error_any 1 1 _ (hE.below (B := w.heap.size) (by go_grown) hE.pos)).mono ?_
          rintro e w4 ⟨rfl, hb4⟩
          have hB4 : Below w.heap.size w w4 := by
            refine Below.trans ?_ (Below.mono hb4 ?_)
            · go_grown
            · first | omega | (simp; done) | (simp; omega)
          have hz4_0 : w.heap.size < w4.heap.size := by have := hb4.size; first | omega | (simp at this; omega)
          have hy4 : w.heap.size ≤ w4.heap.size := hB4.size
          obtain ⟨c4, d4⟩ := bcell hb4
          go_wp2_with fail
          refine (RI.out _).mono ?_
          rintro e w105 ⟨rfl, rfl⟩
          go_wp2_with fail
          refine (IS.out _).mono ?_
          rintro e w6 ⟨rfl, hb6⟩
          have hB6 : Below w.heap.size w w6 := by
            refine Below.trans ?_ (Below.mono hb6 ?_)
            · go_grown
            · first | omega | (simp; done) | (simp; omega)
          have hz6_0 : w.heap.size < w6.heap.size := by have := hb6.size; first | omega | (simp at this; omega)
          have hy6 : w.heap.size ≤ w6.heap.size := hB6.size
          obtain ⟨c6, d6⟩ := bcell hb6
          go_wp2_with fail
          refine (error_any 1 1 _ (hE.below (B := w.heap.size) (by go_grown) hE.pos)).mono ?_
          rintro e w7 ⟨rfl, hb7⟩
          have hB7 : Below w.heap.size w w7 := by
            refine Below.trans ?_ (Below.mono hb7 ?_)
            · go_grown
            · first | omega | (simp; done) | (simp; omega)
          have hz7_0 : w.heap.size < w7.heap.size := by have := hb7.size; first | omega | (simp at this; omega)
          have hy7 : w.heap.size ≤ w7.heap.size := hB7.size
          obtain ⟨c7, d7⟩ := bcell hb7
          go_wp2
          go_ret
          exact ⟨rfl, by go_grown⟩
    · rw [hx] at RS hbad
      have hc : connB s n = false := by simpa using hbad
      clear hx hbad
      rw [hc] at RC
      clear hc
      cases ht : inB t
      · rw [ht] at RI
        clear ht
        go_enter Tryd.func8, Tryd.ntmps8
        go_wp2_with fail
        refine (RS.out _).mono ?_
        rintro e w101 ⟨rfl, rfl⟩
        go_wp2_with fail
        refine (RC.out _).mono ?_
        rintro e w2 ⟨rfl, hb2⟩
        have hB2 : Below w.heap.size w w2 := by
          refine Below.trans ?_ (Below.mono hb2 ?_)
          · go_grown
          · first | omega | (simp; done) | (simp; omega)
        have hz2_0 : w.heap.size < w2.heap.size := by have := hb2.size; first | omega | (simp at this; omega)
        have hy2 : w.heap.size ≤ w2.heap.size := hB2.size
        obtain ⟨c2, d2⟩ := bcell hb2
        go_wp2_with fail
        refine (OF.out _).mono ?_
        rintro e w3 ⟨rfl, hb3⟩
        have hB3 : Below w.heap.size w w3 := by
          refine Below.trans ?_ (Below.mono hb3 ?_)
          · go_grown
          · first | omega | (simp; done) | (simp; omega)
        have hz3_0 : w.heap.size < w3.heap.size := by have := hb3.size; first | omega | (simp at this; omega)
        have hy3 : w.heap.size ≤ w3.heap.size := hB3.size
        obtain ⟨c3, d3⟩ := bcell hb3
        go_wp2_with fail
        refine (error_any 1 1 _ (hE.below (B := w.heap.size) (by go_grown) hE.pos)).mono ?_
        rintro e w4 ⟨rfl, hb4⟩
        have hB4 : Below w.heap.size w w4 := by
          refine Below.trans ?_ (Below.mono hb4 ?_)
          · go_grown
          · first | omega | (simp; done) | (simp; omega)
        have hz4_0 : w.heap.size < w4.heap.size := by have := hb4.size; first | omega | (simp at this; omega)
        have hy4 : w.heap.size ≤ w4.heap.size := hB4.size
        obtain ⟨c4, d4⟩ := bcell hb4
        go_wp2_with fail
        refine (RI.out _).mono ?_
        rintro e w105 ⟨rfl, rfl⟩
        go_wp2_with fail
        refine (IS.out _).mono ?_
        rintro e w6 ⟨rfl, hb6⟩
        have hB6 : Below w.heap.size w w6 := by
          refine Below.trans ?_ (Below.mono hb6 ?_)
          · go_grown
          · first | omega | (simp; done) | (simp; omega)
        have hz6_0 : w.heap.size < w6.heap.size := by have := hb6.size; first | omega | (simp at this; omega)
        have hy6 : w.heap.size ≤ w6.heap.size := hB6.size
        obtain ⟨c6, d6⟩ := bcell hb6
        go_wp2_with fail
        refine (error_any 1 1 _ (hE.below (B := w.heap.size) (by go_grown) hE.pos)).mono ?_
        rintro e w7 ⟨rfl, hb7⟩
        have hB7 : Below w.heap.size w w7 := by
          refine Below.trans ?_ (Below.mono hb7 ?_)
          · go_grown
          · first | omega | (simp; done) | (simp; omega)
        have hz7_0 : w.heap.size < w7.heap.size := by have := hb7.size; first | omega | (simp at this; omega)
        have hy7 : w.heap.size ≤ w7.heap.size := hB7.size
        obtain ⟨c7, d7⟩ := bcell hb7
        go_wp2
        go_ret
        exact ⟨rfl, by go_grown⟩
      · rw [ht] at RI
        clear ht
        go_enter Tryd.func8, Tryd.ntmps8
        go_wp2_with fail
        refine (RS.out _).mono ?_
        rintro e w101 ⟨rfl, rfl⟩
        go_wp2_with fail
        refine (RC.out _).mono ?_
        rintro e w2 ⟨rfl, hb2⟩
        have hB2 : Below w.heap.size w w2 := by
          refine Below.trans ?_ (Below.mono hb2 ?_)
          · go_grown
          · first | omega | (simp; done) | (simp; omega)
        have hz2_0 : w.heap.size < w2.heap.size := by have := hb2.size; first | omega | (simp at this; omega)
        have hy2 : w.heap.size ≤ w2.heap.size := hB2.size
        obtain ⟨c2, d2⟩ := bcell hb2
        go_wp2_with fail
        refine (OF.out _).mono ?_
        rintro e w3 ⟨rfl, hb3⟩
        have hB3 : Below w.heap.size w w3 := by
          refine Below.trans ?_ (Below.mono hb3 ?_)
          · go_grown
          · first | omega | (simp; done) | (simp; omega)
        have hz3_0 : w.heap.size < w3.heap.size := by have := hb3.size; first | omega | (simp at this; omega)
        have hy3 : w.heap.size ≤ w3.heap.size := hB3.size
        obtain ⟨c3, d3⟩ := bcell hb3
        go_wp2_with fail
        refine (error_any 1 1 _ (hE.below (B := w.heap.size) (by go_grown) hE.pos)).mono ?_
        rintro e w4 ⟨rfl, hb4⟩
        have hB4 : Below w.heap.size w w4 := by
          refine Below.trans ?_ (Below.mono hb4 ?_)
          · go_grown
          · first | omega | (simp; done) | (simp; omega)
        have hz4_0 : w.heap.size < w4.heap.size := by have := hb4.size; first | omega | (simp at this; omega)
        have hy4 : w.heap.size ≤ w4.heap.size := hB4.size
        obtain ⟨c4, d4⟩ := bcell hb4
        go_wp2_with fail
        refine (RI.out _).mono ?_
        rintro e w105 ⟨rfl, rfl⟩
        go_wp2_with fail
        refine (IS.out _).mono ?_
        rintro e w6 ⟨rfl, hb6⟩
        have hB6 : Below w.heap.size w w6 := by
          refine Below.trans ?_ (Below.mono hb6 ?_)
          · go_grown
          · first | omega | (simp; done) | (simp; omega)
        have hz6_0 : w.heap.size < w6.heap.size := by have := hb6.size; first | omega | (simp at this; omega)
        have hy6 : w.heap.size ≤ w6.heap.size := hB6.size
        obtain ⟨c6, d6⟩ := bcell hb6
        go_wp2_with fail
        refine (error_any 1 1 _ (hE.below (B := w.heap.size) (by go_grown) hE.pos)).mono ?_
        rintro e w7 ⟨rfl, hb7⟩
        have hB7 : Below w.heap.size w w7 := by
          refine Below.trans ?_ (Below.mono hb7 ?_)
          · go_grown
          · first | omega | (simp; done) | (simp; omega)
        have hz7_0 : w.heap.size < w7.heap.size := by have := hb7.size; first | omega | (simp at this; omega)
        have hy7 : w.heap.size ≤ w7.heap.size := hB7.size
        obtain ⟨c7, d7⟩ := bcell hb7
        go_wp2
        go_ret
        exact ⟨rfl, by go_grown⟩
end Go.Proofs.YtnfgeidiglldkaaDoor
