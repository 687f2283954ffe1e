/- token: Check by contract. -/
import Derived.Test.YtlnghfmcofmkjaaGreatDoorRunAnswersProofM10
import Derived.Deep.RegionHeld3
namespace Go.Proofs.YtlnghfmcofmkjaaGreatDoor
open Go.RowKit

/-- right numbers? -/
def tokR (te ta tm tt : Int) : Bool := epB te && inB ta && tmB tm && inB tt
theorem tokenRight (te ta tm tt : Int) (w : World) : Calls Tryz.prog 143 #[.agg #[.int .i64 te, .int .i64 ta, .int .i64 tm, .int .i64 tt]] w fun r w' => r = .returned (.bool (tokR te ta tm tt)) ∧ Below w.heap.size w w' := by
  cases h0 : epB te
  · rw [show tokR te ta tm tt = false by simp [tokR, h0]]
    have E := hide (fun W => ringEpoch_eq h0 W)
    clear h0
    go_enter Tryz.func143, Tryz.ntmps143
    go_wp2_with fail
    refine (E.out _).mono ?_
    rintro e w101 ⟨rfl, rfl⟩
    go_wp2
    go_ret
    exact ⟨rfl, by go_grown⟩
  · have E := hide (fun W => ringEpoch_eq h0 W)
    cases h1 : inB ta
    · rw [show tokR te ta tm tt = false by simp [tokR, h1]]
      have I := hide (fun W => tagIn_eq h1 W)
      clear h0 h1
      go_enter Tryz.func143, Tryz.ntmps143
      go_wp2_with fail
      refine (E.out _).mono ?_
      rintro e w101 ⟨rfl, rfl⟩
      go_wp2_with fail
      refine (I.out _).mono ?_
      rintro e w102 ⟨rfl, rfl⟩
      go_wp2
      go_ret
      exact ⟨rfl, by go_grown⟩
    · have I := hide (fun W => tagIn_eq h1 W)
      cases h2 : tmB tm
      · rw [show tokR te ta tm tt = false by simp [tokR, h2]]
        have T := hide (fun W => tokenTime_eq h2 W)
        clear h0 h1 h2
        go_enter Tryz.func143, Tryz.ntmps143
        go_wp2_with fail
        refine (E.out _).mono ?_
        rintro e w101 ⟨rfl, rfl⟩
        go_wp2_with fail
        refine (I.out _).mono ?_
        rintro e w102 ⟨rfl, rfl⟩
        go_wp2_with fail
        refine (T.out _).mono ?_
        rintro e w103 ⟨rfl, rfl⟩
        go_wp2
        go_ret
        exact ⟨rfl, by go_grown⟩
      · have T := hide (fun W => tokenTime_eq h2 W)
        cases h3 : inB tt
        · rw [show tokR te ta tm tt = false by simp [tokR, h3]]
          have G := hide (fun W => tagIn_eq h3 W)
          clear h0 h1 h2 h3
          go_enter Tryz.func143, Tryz.ntmps143
          go_wp2_with fail
          refine (E.out _).mono ?_
          rintro e w101 ⟨rfl, rfl⟩
          go_wp2_with fail
          refine (I.out _).mono ?_
          rintro e w102 ⟨rfl, rfl⟩
          go_wp2_with fail
          refine (T.out _).mono ?_
          rintro e w103 ⟨rfl, rfl⟩
          go_wp2_with fail
          refine (G.out _).mono ?_
          rintro e w104 ⟨rfl, rfl⟩
          go_wp2
          go_ret
          exact ⟨rfl, by go_grown⟩
        · rw [show tokR te ta tm tt = true by simp [tokR, h0, h1, h2, h3]]
          have G := hide (fun W => tagIn_eq h3 W)
          clear h0 h1 h2 h3
          go_enter Tryz.func143, Tryz.ntmps143
          go_wp2_with fail
          refine (E.out _).mono ?_
          rintro e w101 ⟨rfl, rfl⟩
          go_wp2_with fail
          refine (I.out _).mono ?_
          rintro e w102 ⟨rfl, rfl⟩
          go_wp2_with fail
          refine (T.out _).mono ?_
          rintro e w103 ⟨rfl, rfl⟩
          go_wp2_with fail
          refine (G.out _).mono ?_
          rintro e w104 ⟨rfl, rfl⟩
          go_wp2
          go_ret
          exact ⟨rfl, by go_grown⟩
theorem tokenRight_eq {te ta tm tt : Int} {v : Bool} (h : tokR te ta tm tt = v) (w : World) : Calls Tryz.prog 143 #[.agg #[.int .i64 te, .int .i64 ta, .int .i64 tm, .int .i64 tt]] w fun r w' => r = .returned (.bool v) ∧ Below w.heap.size w w' := by
  have g := tokenRight te ta tm tt w
  rwa [h] at g
theorem tokR_ok {te ta tm tt : Int} (h : tokR te ta tm tt = true) : (0 ≤ te ∧ te ≤ 100) ∧ (0 ≤ ta ∧ ta < 999983) ∧ (0 ≤ tm ∧ tm ≤ 100000) ∧ (0 ≤ tt ∧ tt < 999983) := by
  simp only [tokR, Bool.and_eq_true] at h
  exact ⟨epB_true.1 h.1.1.1, inB_true.1 h.1.1.2, tmB_true.1 h.1.2, inB_true.1 h.2⟩
/-- the fault of a token at an address, and a time -/
def tokE (e k o te ta tm tt ad now li : Int) : Int :=
  if ringE e k o ≠ 0 then ringE e k o else if (inB ad && tmB now && tmB li && tokR te ta tm tt) = false then 1
  else if (ringOfN e k o te).2 ≠ 0 then (ringOfN e k o te).2
  else if tagOf (ringOfN e k o te).1 [1, ta, tm] ≠ tt then 8 else if ta ≠ ad then 7 else if now < tm ∨ li < now - tm then 9 else 0
theorem ringOfN_keyT {e k o te : Int} (hk : 0 ≤ k ∧ k < 999983) (ho : 0 ≤ o ∧ o < 999983) : 0 ≤ (ringOfN e k o te).1 ∧ (ringOfN e k o te).1 < 999983 := by
  unfold ringOfN; split
  · exact hk
  · split
    · exact ho
    · split <;> simp
set_option maxHeartbeats 1000000 in
theorem tokenCheck (e k o te ta tm tt ad now li : Int) (w : World) : Calls Tryz.prog 125 #[.agg #[.int .i64 e, .int .i64 k, .int .i64 o], .agg #[.int .i64 te, .int .i64 ta, .int .i64 tm, .int .i64 tt], .int .i64 ad, .int .i64 now, .int .i64 li] w fun r w' => r = .returned (errV (tokE e k o te ta tm tt ad now li)) ∧ Below w.heap.size w w' := by
  by_cases hr : ringE e k o = 0
  · have C : Hid (∀ W, Calls Tryz.prog 110 #[.agg #[.int .i64 e, .int .i64 k, .int .i64 o]] W fun r w' => r = .returned .nilIface ∧ Below W.heap.size W w') := ringCheck_eq (c := 0) hr
    obtain ⟨he, hk, ho, _⟩ := ringE_ok hr
    cases ha : inB ad
    · rw [show tokE e k o te ta tm tt ad now li = 1 by simp [tokE, hr, ha]]
      have A := hide (fun W => tagIn_eq ha W)
      clear hr he hk ho ha
      go_enter Tryz.func125, Tryz.ntmps125
      go_wp2_with fail
      refine (C.out _).mono ?_
      rintro e w1 ⟨rfl, hb1⟩
      have hB1 : Below w.heap.size w w1 := by
        refine Below.trans ?_ (Below.mono hb1 ?_)
        · go_grown
        · first | omega | (simp; done) | (simp; omega)
      have hz1_0 : w.heap.size < w1.heap.size := by have := hb1.size; first | omega | (simp at this; omega)
      have hz1_1 : w.heap.size + 1 < w1.heap.size := by have := hb1.size; first | omega | (simp at this; omega)
      have hy1 : w.heap.size ≤ w1.heap.size := hB1.size
      obtain ⟨c1, d1⟩ := bcell hb1
      go_wp2_with fail
      refine (A.out _).mono ?_
      rintro e w102 ⟨rfl, rfl⟩
      go_wp2
      go_ret
      exact ⟨rfl, by go_grown⟩
    · have A := hide (fun W => tagIn_eq ha W)
      cases hn : tmB now
      · rw [show tokE e k o te ta tm tt ad now li = 1 by simp [tokE, hr, hn]]
        have T := hide (fun W => tokenTime_eq hn W)
        clear hr he hk ho ha hn
        go_enter Tryz.func125, Tryz.ntmps125
        go_wp2_with fail
        refine (C.out _).mono ?_
        rintro e w1 ⟨rfl, hb1⟩
        have hB1 : Below w.heap.size w w1 := by
          refine Below.trans ?_ (Below.mono hb1 ?_)
          · go_grown
          · first | omega | (simp; done) | (simp; omega)
        have hz1_0 : w.heap.size < w1.heap.size := by have := hb1.size; first | omega | (simp at this; omega)
        have hz1_1 : w.heap.size + 1 < w1.heap.size := by have := hb1.size; first | omega | (simp at this; omega)
        have hy1 : w.heap.size ≤ w1.heap.size := hB1.size
        obtain ⟨c1, d1⟩ := bcell hb1
        go_wp2_with fail
        refine (A.out _).mono ?_
        rintro e w102 ⟨rfl, rfl⟩
        go_wp2_with fail
        refine (T.out _).mono ?_
        rintro e w103 ⟨rfl, rfl⟩
        go_wp2
        go_ret
        exact ⟨rfl, by go_grown⟩
      · have T := hide (fun W => tokenTime_eq hn W)
        cases hl : tmB li
        · rw [show tokE e k o te ta tm tt ad now li = 1 by simp [tokE, hr, hl]]
          have L := hide (fun W => tokenTime_eq hl W)
          clear hr he hk ho ha hn hl
          go_enter Tryz.func125, Tryz.ntmps125
          go_wp2_with fail
          refine (C.out _).mono ?_
          rintro e w1 ⟨rfl, hb1⟩
          have hB1 : Below w.heap.size w w1 := by
            refine Below.trans ?_ (Below.mono hb1 ?_)
            · go_grown
            · first | omega | (simp; done) | (simp; omega)
          have hz1_0 : w.heap.size < w1.heap.size := by have := hb1.size; first | omega | (simp at this; omega)
          have hz1_1 : w.heap.size + 1 < w1.heap.size := by have := hb1.size; first | omega | (simp at this; omega)
          have hy1 : w.heap.size ≤ w1.heap.size := hB1.size
          obtain ⟨c1, d1⟩ := bcell hb1
          go_wp2_with fail
          refine (A.out _).mono ?_
          rintro e w102 ⟨rfl, rfl⟩
          go_wp2_with fail
          refine (T.out _).mono ?_
          rintro e w103 ⟨rfl, rfl⟩
          go_wp2_with fail
          refine (L.out _).mono ?_
          rintro e w104 ⟨rfl, rfl⟩
          go_wp2
          go_ret
          exact ⟨rfl, by go_grown⟩
        · have L := hide (fun W => tokenTime_eq hl W)
          cases ht : tokR te ta tm tt
          · rw [show tokE e k o te ta tm tt ad now li = 1 by simp [tokE, hr, ht]]
            have R := hide (fun W => tokenRight_eq ht W)
            clear hr he hk ho ha hn hl ht
            go_enter Tryz.func125, Tryz.ntmps125
            go_wp2_with fail
            refine (C.out _).mono ?_
            rintro e w1 ⟨rfl, hb1⟩
            have hB1 : Below w.heap.size w w1 := by
              refine Below.trans ?_ (Below.mono hb1 ?_)
              · go_grown
              · first | omega | (simp; done) | (simp; omega)
            have hz1_0 : w.heap.size < w1.heap.size := by have := hb1.size; first | omega | (simp at this; omega)
            have hz1_1 : w.heap.size + 1 < w1.heap.size := by have := hb1.size; first | omega | (simp at this; omega)
            have hy1 : w.heap.size ≤ w1.heap.size := hB1.size
            obtain ⟨c1, d1⟩ := bcell hb1
            go_wp2_with fail
            refine (A.out _).mono ?_
            rintro e w102 ⟨rfl, rfl⟩
            go_wp2_with fail
            refine (T.out _).mono ?_
            rintro e w103 ⟨rfl, rfl⟩
            go_wp2_with fail
            refine (L.out _).mono ?_
            rintro e w104 ⟨rfl, rfl⟩
            go_wp2_with fail
            refine (R.out _).mono ?_
            rintro e w5 ⟨rfl, hb5⟩
            have hB5 : Below w.heap.size w w5 := by
              refine Below.trans ?_ (Below.mono hb5 ?_)
              · go_grown
              · first | omega | (simp; done) | (simp; omega)
            have hz5_0 : w.heap.size < w5.heap.size := by have := hb5.size; first | omega | (simp at this; omega)
            have hz5_1 : w.heap.size + 1 < w5.heap.size := by have := hb5.size; first | omega | (simp at this; omega)
            have hy5 : w.heap.size ≤ w5.heap.size := hB5.size
            obtain ⟨c5, d5⟩ := bcell hb5
            go_wp2
            go_ret
            exact ⟨rfl, by go_grown⟩
          · have R := hide (fun W => tokenRight_eq ht W)
            obtain ⟨hte, hta, htm, htt⟩ := tokR_ok ht
            have hnow := tmB_true.1 hn
            have hli := tmB_true.1 hl
            have hkey := ringOfN_keyT (e := e) (te := te) hk ho
            obtain ⟨key, c, hof⟩ : ∃ key c, ringOfN e k o te = (key, c) := ⟨_, _, rfl⟩
            have O := hide (ringOf_eq hof he.1 he.2 hte.1 hte.2)
            rw [hof] at hkey
            simp only at hkey
            by_cases hc : c = 0
            · subst hc
              have O' : Hid (∀ W, Calls Tryz.prog 144 #[.agg #[.int .i64 e, .int .i64 k, .int .i64 o], .int .i64 te] W fun r w' => r = .returned (.tuple #[.int .i64 key, .nilIface]) ∧ Below W.heap.size W w') := O
              have G := hide (tagOf3 hkey (show (0 : Int) ≤ 1 ∧ (1 : Int) < 999983 by omega) hta (show 0 ≤ tm ∧ tm < 999983 by omega))
              obtain ⟨g, hg⟩ : ∃ g, g = tagOf key [1, ta, tm] := ⟨_, rfl⟩
              rw [← hg] at G
              obtain ⟨htm0, htm1⟩ := htm
              obtain ⟨hnow0, hnow1⟩ := hnow
              obtain ⟨hli0, hli1⟩ := hli
              have base : tokE e k o te ta tm tt ad now li = (if g ≠ tt then 8 else if ta ≠ ad then 7 else if now < tm ∨ li < now - tm then 9 else 0) := by
                unfold tokE
                rw [if_neg (by simp [hr]), if_neg (by simp [ha, hn, hl, ht]), hof, if_neg (by simp), ← hg]
              by_cases h8 : g = tt
              · have t8 : (g != tt) = false := by simp [h8]
                by_cases h7 : ta = ad
                · have t7 : (ta != ad) = false := by simp [h7]
                  by_cases h9 : now < tm
                  · rw [base, if_neg (by simp [h8]), if_neg (by simp [h7]), if_pos (.inl h9)]
                    clear base hr he hk ho ha hn hl ht hte hta htt hkey hof O hg h8 h7
                    go_enter Tryz.func125, Tryz.ntmps125
                    go_wp2_with fail
                    refine (C.out _).mono ?_
                    rintro e w1 ⟨rfl, hb1⟩
                    have hB1 : Below w.heap.size w w1 := by
                      refine Below.trans ?_ (Below.mono hb1 ?_)
                      · go_grown
                      · first | omega | (simp; done) | (simp; omega)
                    have hz1_0 : w.heap.size < w1.heap.size := by have := hb1.size; first | omega | (simp at this; omega)
                    have hz1_1 : w.heap.size + 1 < w1.heap.size := by have := hb1.size; first | omega | (simp at this; omega)
                    have hy1 : w.heap.size ≤ w1.heap.size := hB1.size
                    obtain ⟨c1, d1⟩ := bcell hb1
                    go_wp2_with fail
                    refine (A.out _).mono ?_
                    rintro e w102 ⟨rfl, rfl⟩
                    go_wp2_with fail
                    refine (T.out _).mono ?_
                    rintro e w103 ⟨rfl, rfl⟩
                    go_wp2_with fail
                    refine (L.out _).mono ?_
                    rintro e w104 ⟨rfl, rfl⟩
                    go_wp2_with fail
                    refine (R.out _).mono ?_
                    rintro e w5 ⟨rfl, hb5⟩
                    have hB5 : Below w.heap.size w w5 := by
                      refine Below.trans ?_ (Below.mono hb5 ?_)
                      · go_grown
                      · first | omega | (simp; done) | (simp; omega)
                    have hz5_0 : w.heap.size < w5.heap.size := by have := hb5.size; first | omega | (simp at this; omega)
                    have hz5_1 : w.heap.size + 1 < w5.heap.size := by have := hb5.size; first | omega | (simp at this; omega)
                    have hy5 : w.heap.size ≤ w5.heap.size := hB5.size
                    obtain ⟨c5, d5⟩ := bcell hb5
                    go_wp2_with fail
                    refine (O'.out _).mono ?_
                    rintro e w6 ⟨rfl, hb6⟩
                    have hB6 : Below w.heap.size w w6 := by
                      refine Below.trans ?_ (Below.mono hb6 ?_)
                      · go_grown
                      · first | omega | (simp; done) | (simp; omega)
                    have hz6_0 : w.heap.size < w6.heap.size := by have := hb6.size; first | omega | (simp at this; omega)
                    have hz6_1 : w.heap.size + 1 < w6.heap.size := by have := hb6.size; first | omega | (simp at this; omega)
                    have hy6 : w.heap.size ≤ w6.heap.size := hB6.size
                    obtain ⟨c6, d6⟩ := bcell hb6
                    have x1 : ObjAt w1 (w.heap.size + 1) 65 [.int .i64 te, .int .i64 ta, .int .i64 tm, .int .i64 tt] := ObjAt.below (objNew (by simp)) hb1
                    have x4 := ObjAt.below (ObjAt.below x1 hb5) hb6
                    have q1 := x4.cell (i := 1) rfl
                    have q2 := x4.cell (i := 2) rfl
                    have q3 := x4.cell (i := 3) rfl
                    clear x1 x4 c1 d1 c5 d5 c6 d6 hb1 hb5 hb6
                    go_wp2_with fail
                    go_region_held3 (fun w' => w'.cell? ⟨w.heap.size + 1, 1, none⟩ = some (.int .i64 ta) ∧ w'.cell? ⟨w.heap.size + 1, 2, none⟩ = some (.int .i64 tm) ∧ w'.cell? ⟨w.heap.size + 1, 3, none⟩ = some (.int .i64 tt)) (go_keep)
                      (first | (go_at_call 44; refine (G.out _ _ ?_).mono ?_; (first | (with_reducible refine ObjAt.drew ?_; exact objNew (by simp)) | exact objNew (by simp)); rintro e9 w9 ⟨rfl, rfl⟩))
                    go_wp2
                    go_ret
                    exact ⟨rfl, by go_grown⟩
                  · by_cases h10 : li < now - tm
                    · rw [base, if_neg (by simp [h8]), if_neg (by simp [h7]), if_pos (.inr h10)]
                      clear base hr he hk ho ha hn hl ht hte hta htt hkey hof O hg h8 h7
                      go_enter Tryz.func125, Tryz.ntmps125
                      go_wp2_with fail
                      refine (C.out _).mono ?_
                      rintro e w1 ⟨rfl, hb1⟩
                      have hB1 : Below w.heap.size w w1 := by
                        refine Below.trans ?_ (Below.mono hb1 ?_)
                        · go_grown
                        · first | omega | (simp; done) | (simp; omega)
                      have hz1_0 : w.heap.size < w1.heap.size := by have := hb1.size; first | omega | (simp at this; omega)
                      have hz1_1 : w.heap.size + 1 < w1.heap.size := by have := hb1.size; first | omega | (simp at this; omega)
                      have hy1 : w.heap.size ≤ w1.heap.size := hB1.size
                      obtain ⟨c1, d1⟩ := bcell hb1
                      go_wp2_with fail
                      refine (A.out _).mono ?_
                      rintro e w102 ⟨rfl, rfl⟩
                      go_wp2_with fail
                      refine (T.out _).mono ?_
                      rintro e w103 ⟨rfl, rfl⟩
                      go_wp2_with fail
                      refine (L.out _).mono ?_
                      rintro e w104 ⟨rfl, rfl⟩
                      go_wp2_with fail
                      refine (R.out _).mono ?_
                      rintro e w5 ⟨rfl, hb5⟩
                      have hB5 : Below w.heap.size w w5 := by
                        refine Below.trans ?_ (Below.mono hb5 ?_)
                        · go_grown
                        · first | omega | (simp; done) | (simp; omega)
                      have hz5_0 : w.heap.size < w5.heap.size := by have := hb5.size; first | omega | (simp at this; omega)
                      have hz5_1 : w.heap.size + 1 < w5.heap.size := by have := hb5.size; first | omega | (simp at this; omega)
                      have hy5 : w.heap.size ≤ w5.heap.size := hB5.size
                      obtain ⟨c5, d5⟩ := bcell hb5
                      go_wp2_with fail
                      refine (O'.out _).mono ?_
                      rintro e w6 ⟨rfl, hb6⟩
                      have hB6 : Below w.heap.size w w6 := by
                        refine Below.trans ?_ (Below.mono hb6 ?_)
                        · go_grown
                        · first | omega | (simp; done) | (simp; omega)
                      have hz6_0 : w.heap.size < w6.heap.size := by have := hb6.size; first | omega | (simp at this; omega)
                      have hz6_1 : w.heap.size + 1 < w6.heap.size := by have := hb6.size; first | omega | (simp at this; omega)
                      have hy6 : w.heap.size ≤ w6.heap.size := hB6.size
                      obtain ⟨c6, d6⟩ := bcell hb6
                      have x1 : ObjAt w1 (w.heap.size + 1) 65 [.int .i64 te, .int .i64 ta, .int .i64 tm, .int .i64 tt] := ObjAt.below (objNew (by simp)) hb1
                      have x4 := ObjAt.below (ObjAt.below x1 hb5) hb6
                      have q1 := x4.cell (i := 1) rfl
                      have q2 := x4.cell (i := 2) rfl
                      have q3 := x4.cell (i := 3) rfl
                      clear x1 x4 c1 d1 c5 d5 c6 d6 hb1 hb5 hb6
                      go_wp2_with fail
                      go_region_held3 (fun w' => w'.cell? ⟨w.heap.size + 1, 1, none⟩ = some (.int .i64 ta) ∧ w'.cell? ⟨w.heap.size + 1, 2, none⟩ = some (.int .i64 tm) ∧ w'.cell? ⟨w.heap.size + 1, 3, none⟩ = some (.int .i64 tt)) (go_keep)
                        (first | (go_at_call 44; refine (G.out _ _ ?_).mono ?_; (first | (with_reducible refine ObjAt.drew ?_; exact objNew (by simp)) | exact objNew (by simp)); rintro e9 w9 ⟨rfl, rfl⟩))
                      go_wp2
                      go_ret
                      exact ⟨rfl, by go_grown⟩
                    · rw [base, if_neg (by simp [h8]), if_neg (by simp [h7]), if_neg (by omega)]
                      clear base hr he hk ho ha hn hl ht hte hta htt hkey hof O hg h8 h7
                      go_enter Tryz.func125, Tryz.ntmps125
                      go_wp2_with fail
                      refine (C.out _).mono ?_
                      rintro e w1 ⟨rfl, hb1⟩
                      have hB1 : Below w.heap.size w w1 := by
                        refine Below.trans ?_ (Below.mono hb1 ?_)
                        · go_grown
                        · first | omega | (simp; done) | (simp; omega)
                      have hz1_0 : w.heap.size < w1.heap.size := by have := hb1.size; first | omega | (simp at this; omega)
                      have hz1_1 : w.heap.size + 1 < w1.heap.size := by have := hb1.size; first | omega | (simp at this; omega)
                      have hy1 : w.heap.size ≤ w1.heap.size := hB1.size
                      obtain ⟨c1, d1⟩ := bcell hb1
                      go_wp2_with fail
                      refine (A.out _).mono ?_
                      rintro e w102 ⟨rfl, rfl⟩
                      go_wp2_with fail
                      refine (T.out _).mono ?_
                      rintro e w103 ⟨rfl, rfl⟩
                      go_wp2_with fail
                      refine (L.out _).mono ?_
                      rintro e w104 ⟨rfl, rfl⟩
                      go_wp2_with fail
                      refine (R.out _).mono ?_
                      rintro e w5 ⟨rfl, hb5⟩
                      have hB5 : Below w.heap.size w w5 := by
                        refine Below.trans ?_ (Below.mono hb5 ?_)
                        · go_grown
                        · first | omega | (simp; done) | (simp; omega)
                      have hz5_0 : w.heap.size < w5.heap.size := by have := hb5.size; first | omega | (simp at this; omega)
                      have hz5_1 : w.heap.size + 1 < w5.heap.size := by have := hb5.size; first | omega | (simp at this; omega)
                      have hy5 : w.heap.size ≤ w5.heap.size := hB5.size
                      obtain ⟨c5, d5⟩ := bcell hb5
                      go_wp2_with fail
                      refine (O'.out _).mono ?_
                      rintro e w6 ⟨rfl, hb6⟩
                      have hB6 : Below w.heap.size w w6 := by
                        refine Below.trans ?_ (Below.mono hb6 ?_)
                        · go_grown
                        · first | omega | (simp; done) | (simp; omega)
                      have hz6_0 : w.heap.size < w6.heap.size := by have := hb6.size; first | omega | (simp at this; omega)
                      have hz6_1 : w.heap.size + 1 < w6.heap.size := by have := hb6.size; first | omega | (simp at this; omega)
                      have hy6 : w.heap.size ≤ w6.heap.size := hB6.size
                      obtain ⟨c6, d6⟩ := bcell hb6
                      have x1 : ObjAt w1 (w.heap.size + 1) 65 [.int .i64 te, .int .i64 ta, .int .i64 tm, .int .i64 tt] := ObjAt.below (objNew (by simp)) hb1
                      have x4 := ObjAt.below (ObjAt.below x1 hb5) hb6
                      have q1 := x4.cell (i := 1) rfl
                      have q2 := x4.cell (i := 2) rfl
                      have q3 := x4.cell (i := 3) rfl
                      clear x1 x4 c1 d1 c5 d5 c6 d6 hb1 hb5 hb6
                      go_wp2_with fail
                      go_region_held3 (fun w' => w'.cell? ⟨w.heap.size + 1, 1, none⟩ = some (.int .i64 ta) ∧ w'.cell? ⟨w.heap.size + 1, 2, none⟩ = some (.int .i64 tm) ∧ w'.cell? ⟨w.heap.size + 1, 3, none⟩ = some (.int .i64 tt)) (go_keep)
                        (first | (go_at_call 44; refine (G.out _ _ ?_).mono ?_; (first | (with_reducible refine ObjAt.drew ?_; exact objNew (by simp)) | exact objNew (by simp)); rintro e9 w9 ⟨rfl, rfl⟩))
                      go_wp2
                      go_ret
                      exact ⟨rfl, by go_grown⟩
                · have t7 : (ta != ad) = true := bne_iff_ne.2 h7
                  rw [base, if_neg (by simp [h8]), if_pos h7]
                  clear base hr he hk ho ha hn hl ht hte hta htt hkey hof O hg h8 h7
                  go_enter Tryz.func125, Tryz.ntmps125
                  go_wp2_with fail
                  refine (C.out _).mono ?_
                  rintro e w1 ⟨rfl, hb1⟩
                  have hB1 : Below w.heap.size w w1 := by
                    refine Below.trans ?_ (Below.mono hb1 ?_)
                    · go_grown
                    · first | omega | (simp; done) | (simp; omega)
                  have hz1_0 : w.heap.size < w1.heap.size := by have := hb1.size; first | omega | (simp at this; omega)
                  have hz1_1 : w.heap.size + 1 < w1.heap.size := by have := hb1.size; first | omega | (simp at this; omega)
                  have hy1 : w.heap.size ≤ w1.heap.size := hB1.size
                  obtain ⟨c1, d1⟩ := bcell hb1
                  go_wp2_with fail
                  refine (A.out _).mono ?_
                  rintro e w102 ⟨rfl, rfl⟩
                  go_wp2_with fail
                  refine (T.out _).mono ?_
                  rintro e w103 ⟨rfl, rfl⟩
                  go_wp2_with fail
                  refine (L.out _).mono ?_
                  rintro e w104 ⟨rfl, rfl⟩
                  go_wp2_with fail
                  refine (R.out _).mono ?_
                  rintro e w5 ⟨rfl, hb5⟩
                  have hB5 : Below w.heap.size w w5 := by
                    refine Below.trans ?_ (Below.mono hb5 ?_)
                    · go_grown
                    · first | omega | (simp; done) | (simp; omega)
                  have hz5_0 : w.heap.size < w5.heap.size := by have := hb5.size; first | omega | (simp at this; omega)
                  have hz5_1 : w.heap.size + 1 < w5.heap.size := by have := hb5.size; first | omega | (simp at this; omega)
                  have hy5 : w.heap.size ≤ w5.heap.size := hB5.size
                  obtain ⟨c5, d5⟩ := bcell hb5
                  go_wp2_with fail
                  refine (O'.out _).mono ?_
                  rintro e w6 ⟨rfl, hb6⟩
                  have hB6 : Below w.heap.size w w6 := by
                    refine Below.trans ?_ (Below.mono hb6 ?_)
                    · go_grown
                    · first | omega | (simp; done) | (simp; omega)
                  have hz6_0 : w.heap.size < w6.heap.size := by have := hb6.size; first | omega | (simp at this; omega)
                  have hz6_1 : w.heap.size + 1 < w6.heap.size := by have := hb6.size; first | omega | (simp at this; omega)
                  have hy6 : w.heap.size ≤ w6.heap.size := hB6.size
                  obtain ⟨c6, d6⟩ := bcell hb6
                  have x1 : ObjAt w1 (w.heap.size + 1) 65 [.int .i64 te, .int .i64 ta, .int .i64 tm, .int .i64 tt] := ObjAt.below (objNew (by simp)) hb1
                  have x4 := ObjAt.below (ObjAt.below x1 hb5) hb6
                  have q1 := x4.cell (i := 1) rfl
                  have q2 := x4.cell (i := 2) rfl
                  have q3 := x4.cell (i := 3) rfl
                  clear x1 x4 c1 d1 c5 d5 c6 d6 hb1 hb5 hb6
                  go_wp2_with fail
                  go_region_held3 (fun w' => w'.cell? ⟨w.heap.size + 1, 1, none⟩ = some (.int .i64 ta) ∧ w'.cell? ⟨w.heap.size + 1, 2, none⟩ = some (.int .i64 tm) ∧ w'.cell? ⟨w.heap.size + 1, 3, none⟩ = some (.int .i64 tt)) (go_keep)
                    (first | (go_at_call 44; refine (G.out _ _ ?_).mono ?_; (first | (with_reducible refine ObjAt.drew ?_; exact objNew (by simp)) | exact objNew (by simp)); rintro e9 w9 ⟨rfl, rfl⟩))
                  go_wp2
                  go_ret
                  exact ⟨rfl, by go_grown⟩
              · have t8 : (g != tt) = true := bne_iff_ne.2 h8
                rw [base, if_pos h8]
                clear base hr he hk ho ha hn hl ht hte hta htt hkey hof O hg h8
                go_enter Tryz.func125, Tryz.ntmps125
                go_wp2_with fail
                refine (C.out _).mono ?_
                rintro e w1 ⟨rfl, hb1⟩
                have hB1 : Below w.heap.size w w1 := by
                  refine Below.trans ?_ (Below.mono hb1 ?_)
                  · go_grown
                  · first | omega | (simp; done) | (simp; omega)
                have hz1_0 : w.heap.size < w1.heap.size := by have := hb1.size; first | omega | (simp at this; omega)
                have hz1_1 : w.heap.size + 1 < w1.heap.size := by have := hb1.size; first | omega | (simp at this; omega)
                have hy1 : w.heap.size ≤ w1.heap.size := hB1.size
                obtain ⟨c1, d1⟩ := bcell hb1
                go_wp2_with fail
                refine (A.out _).mono ?_
                rintro e w102 ⟨rfl, rfl⟩
                go_wp2_with fail
                refine (T.out _).mono ?_
                rintro e w103 ⟨rfl, rfl⟩
                go_wp2_with fail
                refine (L.out _).mono ?_
                rintro e w104 ⟨rfl, rfl⟩
                go_wp2_with fail
                refine (R.out _).mono ?_
                rintro e w5 ⟨rfl, hb5⟩
                have hB5 : Below w.heap.size w w5 := by
                  refine Below.trans ?_ (Below.mono hb5 ?_)
                  · go_grown
                  · first | omega | (simp; done) | (simp; omega)
                have hz5_0 : w.heap.size < w5.heap.size := by have := hb5.size; first | omega | (simp at this; omega)
                have hz5_1 : w.heap.size + 1 < w5.heap.size := by have := hb5.size; first | omega | (simp at this; omega)
                have hy5 : w.heap.size ≤ w5.heap.size := hB5.size
                obtain ⟨c5, d5⟩ := bcell hb5
                go_wp2_with fail
                refine (O'.out _).mono ?_
                rintro e w6 ⟨rfl, hb6⟩
                have hB6 : Below w.heap.size w w6 := by
                  refine Below.trans ?_ (Below.mono hb6 ?_)
                  · go_grown
                  · first | omega | (simp; done) | (simp; omega)
                have hz6_0 : w.heap.size < w6.heap.size := by have := hb6.size; first | omega | (simp at this; omega)
                have hz6_1 : w.heap.size + 1 < w6.heap.size := by have := hb6.size; first | omega | (simp at this; omega)
                have hy6 : w.heap.size ≤ w6.heap.size := hB6.size
                obtain ⟨c6, d6⟩ := bcell hb6
                have x1 : ObjAt w1 (w.heap.size + 1) 65 [.int .i64 te, .int .i64 ta, .int .i64 tm, .int .i64 tt] := ObjAt.below (objNew (by simp)) hb1
                have x4 := ObjAt.below (ObjAt.below x1 hb5) hb6
                have q1 := x4.cell (i := 1) rfl
                have q2 := x4.cell (i := 2) rfl
                have q3 := x4.cell (i := 3) rfl
                clear x1 x4 c1 d1 c5 d5 c6 d6 hb1 hb5 hb6
                go_wp2_with fail
                go_region_held3 (fun w' => w'.cell? ⟨w.heap.size + 1, 1, none⟩ = some (.int .i64 ta) ∧ w'.cell? ⟨w.heap.size + 1, 2, none⟩ = some (.int .i64 tm) ∧ w'.cell? ⟨w.heap.size + 1, 3, none⟩ = some (.int .i64 tt)) (go_keep)
                  (first | (go_at_call 44; refine (G.out _ _ ?_).mono ?_; (first | (with_reducible refine ObjAt.drew ?_; exact objNew (by simp)) | exact objNew (by simp)); rintro e9 w9 ⟨rfl, rfl⟩))
                go_wp2
                go_ret
                exact ⟨rfl, by go_grown⟩
            · have t1 : (c != 0) = true := bne_iff_ne.2 hc
              rw [show tokE e k o te ta tm tt ad now li = c by simp [tokE, hr, ha, hn, hl, ht, hof, hc]]
              clear hr he hk ho ha hn hl ht hte hta htm htt hkey hof hc hnow hli
              go_enter Tryz.func125, Tryz.ntmps125
              go_wp2_with fail
              refine (C.out _).mono ?_
              rintro e w1 ⟨rfl, hb1⟩
              have hB1 : Below w.heap.size w w1 := by
                refine Below.trans ?_ (Below.mono hb1 ?_)
                · go_grown
                · first | omega | (simp; done) | (simp; omega)
              have hz1_0 : w.heap.size < w1.heap.size := by have := hb1.size; first | omega | (simp at this; omega)
              have hz1_1 : w.heap.size + 1 < w1.heap.size := by have := hb1.size; first | omega | (simp at this; omega)
              have hy1 : w.heap.size ≤ w1.heap.size := hB1.size
              obtain ⟨c1, d1⟩ := bcell hb1
              go_wp2_with fail
              refine (A.out _).mono ?_
              rintro e w102 ⟨rfl, rfl⟩
              go_wp2_with fail
              refine (T.out _).mono ?_
              rintro e w103 ⟨rfl, rfl⟩
              go_wp2_with fail
              refine (L.out _).mono ?_
              rintro e w104 ⟨rfl, rfl⟩
              go_wp2_with fail
              refine (R.out _).mono ?_
              rintro e w5 ⟨rfl, hb5⟩
              have hB5 : Below w.heap.size w w5 := by
                refine Below.trans ?_ (Below.mono hb5 ?_)
                · go_grown
                · first | omega | (simp; done) | (simp; omega)
              have hz5_0 : w.heap.size < w5.heap.size := by have := hb5.size; first | omega | (simp at this; omega)
              have hz5_1 : w.heap.size + 1 < w5.heap.size := by have := hb5.size; first | omega | (simp at this; omega)
              have hy5 : w.heap.size ≤ w5.heap.size := hB5.size
              obtain ⟨c5, d5⟩ := bcell hb5
              go_wp2_with fail
              refine (O.out _).mono ?_
              rintro e w6 ⟨rfl, hb6⟩
              have hB6 : Below w.heap.size w w6 := by
                refine Below.trans ?_ (Below.mono hb6 ?_)
                · go_grown
                · first | omega | (simp; done) | (simp; omega)
              have hz6_0 : w.heap.size < w6.heap.size := by have := hb6.size; first | omega | (simp at this; omega)
              have hz6_1 : w.heap.size + 1 < w6.heap.size := by have := hb6.size; first | omega | (simp at this; omega)
              have hy6 : w.heap.size ≤ w6.heap.size := hB6.size
              obtain ⟨c6, d6⟩ := bcell hb6
              go_wp2
              go_ret
              exact ⟨rfl, by go_grown⟩
  · rw [show tokE e k o te ta tm tt ad now li = ringE e k o by simp [tokE, hr]]
    obtain ⟨c, hc⟩ : ∃ c, ringE e k o = c := ⟨_, rfl⟩
    have C := hide (fun W => ringCheck_eq hc W)
    rw [hc] at hr ⊢
    have t1 : (c != 0) = true := bne_iff_ne.2 hr
    clear hc hr
    go_enter Tryz.func125, Tryz.ntmps125
    go_wp2_with fail
    refine (C.out _).mono ?_
    rintro e w1 ⟨rfl, hb1⟩
    have hB1 : Below w.heap.size w w1 := by
      refine Below.trans ?_ (Below.mono hb1 ?_)
      · go_grown
      · first | omega | (simp; done) | (simp; omega)
    have hz1_0 : w.heap.size < w1.heap.size := by have := hb1.size; first | omega | (simp at this; omega)
    have hz1_1 : w.heap.size + 1 < w1.heap.size := by have := hb1.size; first | omega | (simp at this; omega)
    have hy1 : w.heap.size ≤ w1.heap.size := hB1.size
    obtain ⟨c1, d1⟩ := bcell hb1
    go_wp2
    go_ret
    exact ⟨rfl, by go_grown⟩
theorem tokenCheck_eq {e k o te ta tm tt ad now li c : Int} (h : tokE e k o te ta tm tt ad now li = c) (w : World) : Calls Tryz.prog 125 #[.agg #[.int .i64 e, .int .i64 k, .int .i64 o], .agg #[.int .i64 te, .int .i64 ta, .int .i64 tm, .int .i64 tt], .int .i64 ad, .int .i64 now, .int .i64 li] w fun r w' => r = .returned (errV c) ∧ Below w.heap.size w w' := by
  have g := tokenCheck e k o te ta tm tt ad now li w
  rwa [h] at g
end Go.Proofs.YtlnghfmcofmkjaaGreatDoor
