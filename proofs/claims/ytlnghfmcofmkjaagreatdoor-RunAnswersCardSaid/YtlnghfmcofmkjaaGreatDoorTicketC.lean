/- ticket: Check by contract. -/
import Derived.Test.YtlnghfmcofmkjaaGreatDoorRunAnswersProofM10
namespace Go.Proofs.YtlnghfmcofmkjaaGreatDoor
open Go.RowKit

/-- right numbers? -/
def tickR (te tn tu tt : Int) : Bool := epB te && inB tn && tmB tu && inB tt
theorem ticketRight (te tn tu tt : Int) (w : World) : Calls Tryz.prog 158 #[.agg #[.int .i64 te, .int .i64 tn, .int .i64 tu, .int .i64 tt]] w fun r w' => r = .returned (.bool (tickR te tn tu tt)) ∧ Below w.heap.size w w' := by
  cases h0 : epB te
  · rw [show tickR te tn tu tt = false by simp [tickR, h0]]
    have E := hide (fun W => ringEpoch_eq h0 W)
    clear h0
    go_enter Tryz.func158, Tryz.ntmps158
    go_wp2_with fail
    refine (E.out _).mono ?_
    rintro e w101 ⟨rfl, rfl⟩
    go_wp2
    go_ret
    exact ⟨rfl, by go_grown⟩
  · have E := hide (fun W => ringEpoch_eq h0 W)
    cases h1 : inB tn
    · rw [show tickR te tn tu tt = false by simp [tickR, h1]]
      have I := hide (fun W => tagIn_eq h1 W)
      clear h0 h1
      go_enter Tryz.func158, Tryz.ntmps158
      go_wp2_with fail
      refine (E.out _).mono ?_
      rintro e w101 ⟨rfl, rfl⟩
      go_wp2_with fail
      refine (I.out _).mono ?_
      rintro e w102 ⟨rfl, rfl⟩
      go_wp2
      go_ret
      exact ⟨rfl, by go_grown⟩
    · have I := hide (fun W => tagIn_eq h1 W)
      cases h2 : tmB tu
      · rw [show tickR te tn tu tt = false by simp [tickR, h2]]
        have T := hide (fun W => tokenTime_eq h2 W)
        clear h0 h1 h2
        go_enter Tryz.func158, Tryz.ntmps158
        go_wp2_with fail
        refine (E.out _).mono ?_
        rintro e w101 ⟨rfl, rfl⟩
        go_wp2_with fail
        refine (I.out _).mono ?_
        rintro e w102 ⟨rfl, rfl⟩
        go_wp2_with fail
        refine (T.out _).mono ?_
        rintro e w103 ⟨rfl, rfl⟩
        go_wp2
        go_ret
        exact ⟨rfl, by go_grown⟩
      · have T := hide (fun W => tokenTime_eq h2 W)
        cases h3 : inB tt
        · rw [show tickR te tn tu tt = false by simp [tickR, h3]]
          have G := hide (fun W => tagIn_eq h3 W)
          clear h0 h1 h2 h3
          go_enter Tryz.func158, Tryz.ntmps158
          go_wp2_with fail
          refine (E.out _).mono ?_
          rintro e w101 ⟨rfl, rfl⟩
          go_wp2_with fail
          refine (I.out _).mono ?_
          rintro e w102 ⟨rfl, rfl⟩
          go_wp2_with fail
          refine (T.out _).mono ?_
          rintro e w103 ⟨rfl, rfl⟩
          go_wp2_with fail
          refine (G.out _).mono ?_
          rintro e w104 ⟨rfl, rfl⟩
          go_wp2
          go_ret
          exact ⟨rfl, by go_grown⟩
        · rw [show tickR te tn tu tt = true by simp [tickR, h0, h1, h2, h3]]
          have G := hide (fun W => tagIn_eq h3 W)
          clear h0 h1 h2 h3
          go_enter Tryz.func158, Tryz.ntmps158
          go_wp2_with fail
          refine (E.out _).mono ?_
          rintro e w101 ⟨rfl, rfl⟩
          go_wp2_with fail
          refine (I.out _).mono ?_
          rintro e w102 ⟨rfl, rfl⟩
          go_wp2_with fail
          refine (T.out _).mono ?_
          rintro e w103 ⟨rfl, rfl⟩
          go_wp2_with fail
          refine (G.out _).mono ?_
          rintro e w104 ⟨rfl, rfl⟩
          go_wp2
          go_ret
          exact ⟨rfl, by go_grown⟩
theorem ticketRight_eq {te tn tu tt : Int} {v : Bool} (h : tickR te tn tu tt = v) (w : World) : Calls Tryz.prog 158 #[.agg #[.int .i64 te, .int .i64 tn, .int .i64 tu, .int .i64 tt]] w fun r w' => r = .returned (.bool v) ∧ Below w.heap.size w w' := by
  have g := ticketRight te tn tu tt w
  rwa [h] at g
theorem tickR_ok {te tn tu tt : Int} (h : tickR te tn tu tt = true) : (0 ≤ te ∧ te ≤ 100) ∧ (0 ≤ tn ∧ tn < 999983) ∧ (0 ≤ tu ∧ tu ≤ 100000) ∧ (0 ≤ tt ∧ tt < 999983) := by
  simp only [tickR, Bool.and_eq_true] at h
  exact ⟨epB_true.1 h.1.1.1, inB_true.1 h.1.1.2, tmB_true.1 h.1.2, inB_true.1 h.2⟩
/-- the fault of a ticket at a time -/
def tickE (e k o te tn tu tt now : Int) : Int :=
  if ringE e k o ≠ 0 then ringE e k o else if (tmB now && tickR te tn tu tt) = false then 1
  else if (ringOfN e k o te).2 ≠ 0 then (ringOfN e k o te).2
  else if tagOf (ringOfN e k o te).1 [2, tn, tu] ≠ tt then 8 else if tu < now then 9 else 0
theorem ringOfN_key {e k o te : Int} (hk : 0 ≤ k ∧ k < 999983) (ho : 0 ≤ o ∧ o < 999983) : 0 ≤ (ringOfN e k o te).1 ∧ (ringOfN e k o te).1 < 999983 := by
  unfold ringOfN; split
  · exact hk
  · split
    · exact ho
    · split <;> simp
set_option maxHeartbeats 1000000 in
theorem ticketCheck (e k o te tn tu tt now : Int) (w : World) : Calls Tryz.prog 145 #[.agg #[.int .i64 e, .int .i64 k, .int .i64 o], .agg #[.int .i64 te, .int .i64 tn, .int .i64 tu, .int .i64 tt], .int .i64 now] w fun r w' => r = .returned (errV (tickE e k o te tn tu tt now)) ∧ Below w.heap.size w w' := by
  by_cases hr : ringE e k o = 0
  · have C : Hid (∀ W, Calls Tryz.prog 110 #[.agg #[.int .i64 e, .int .i64 k, .int .i64 o]] W fun r w' => r = .returned .nilIface ∧ Below W.heap.size W w') := ringCheck_eq (c := 0) hr
    obtain ⟨he, hk, ho, _⟩ := ringE_ok hr
    cases hn : tmB now
    · rw [show tickE e k o te tn tu tt now = 1 by simp [tickE, hr, hn]]
      have T := hide (fun W => tokenTime_eq hn W)
      clear hr he hk ho hn
      go_enter Tryz.func145, Tryz.ntmps145
      go_wp2_with fail
      refine (C.out _).mono ?_
      rintro e w1 ⟨rfl, hb1⟩
      have hB1 : Below w.heap.size w w1 := by
        refine Below.trans ?_ (Below.mono hb1 ?_)
        · go_grown
        · first | omega | (simp; done) | (simp; omega)
      have hz1_0 : w.heap.size < w1.heap.size := by have := hb1.size; first | omega | (simp at this; omega)
      have hz1_1 : w.heap.size + 1 < w1.heap.size := by have := hb1.size; first | omega | (simp at this; omega)
      have hy1 : w.heap.size ≤ w1.heap.size := hB1.size
      obtain ⟨c1, d1⟩ := bcell hb1
      go_wp2_with fail
      refine (T.out _).mono ?_
      rintro e w102 ⟨rfl, rfl⟩
      go_wp2
      go_ret
      exact ⟨rfl, by go_grown⟩
    · have T := hide (fun W => tokenTime_eq hn W)
      cases ht : tickR te tn tu tt
      · rw [show tickE e k o te tn tu tt now = 1 by simp [tickE, hr, ht]]
        have R := hide (fun W => ticketRight_eq ht W)
        clear hr he hk ho hn ht
        go_enter Tryz.func145, Tryz.ntmps145
        go_wp2_with fail
        refine (C.out _).mono ?_
        rintro e w1 ⟨rfl, hb1⟩
        have hB1 : Below w.heap.size w w1 := by
          refine Below.trans ?_ (Below.mono hb1 ?_)
          · go_grown
          · first | omega | (simp; done) | (simp; omega)
        have hz1_0 : w.heap.size < w1.heap.size := by have := hb1.size; first | omega | (simp at this; omega)
        have hz1_1 : w.heap.size + 1 < w1.heap.size := by have := hb1.size; first | omega | (simp at this; omega)
        have hy1 : w.heap.size ≤ w1.heap.size := hB1.size
        obtain ⟨c1, d1⟩ := bcell hb1
        go_wp2_with fail
        refine (T.out _).mono ?_
        rintro e w102 ⟨rfl, rfl⟩
        go_wp2_with fail
        refine (R.out _).mono ?_
        rintro e w3 ⟨rfl, hb3⟩
        have hB3 : Below w.heap.size w w3 := by
          refine Below.trans ?_ (Below.mono hb3 ?_)
          · go_grown
          · first | omega | (simp; done) | (simp; omega)
        have hz3_0 : w.heap.size < w3.heap.size := by have := hb3.size; first | omega | (simp at this; omega)
        have hz3_1 : w.heap.size + 1 < w3.heap.size := by have := hb3.size; first | omega | (simp at this; omega)
        have hy3 : w.heap.size ≤ w3.heap.size := hB3.size
        obtain ⟨c3, d3⟩ := bcell hb3
        go_wp2
        go_ret
        exact ⟨rfl, by go_grown⟩
      · have R := hide (fun W => ticketRight_eq ht W)
        obtain ⟨hte, htn, htu, htt⟩ := tickR_ok ht
        have hkey := ringOfN_key (e := e) (te := te) hk ho
        obtain ⟨key, c, hof⟩ : ∃ key c, ringOfN e k o te = (key, c) := ⟨_, _, rfl⟩
        have O := hide (ringOf_eq hof he.1 he.2 hte.1 hte.2)
        rw [hof] at hkey
        simp only at hkey
        by_cases hc : c = 0
        · subst hc
          have O' : Hid (∀ W, Calls Tryz.prog 144 #[.agg #[.int .i64 e, .int .i64 k, .int .i64 o], .int .i64 te] W fun r w' => r = .returned (.tuple #[.int .i64 key, .nilIface]) ∧ Below W.heap.size W w') := O
          have G := hide (tagOf3 hkey (show (0 : Int) ≤ 2 ∧ (2 : Int) < 999983 by omega) htn (show 0 ≤ tu ∧ tu < 999983 by omega))
          obtain ⟨g, hg⟩ : ∃ g, g = tagOf key [2, tn, tu] := ⟨_, rfl⟩
          rw [← hg] at G
          by_cases h8 : g = tt
          · have t8 : (g != tt) = false := by simp [h8]
            by_cases h9 : tu < now
            · rw [show tickE e k o te tn tu tt now = 9 by simp [tickE, hr, hn, ht, hof, ← hg, h8, h9]]
              clear hr he hk ho hn ht hte htn htu htt hkey hof O hg h8
              go_enter Tryz.func145, Tryz.ntmps145
              go_wp2_with fail
              refine (C.out _).mono ?_
              rintro e w1 ⟨rfl, hb1⟩
              have hB1 : Below w.heap.size w w1 := by
                refine Below.trans ?_ (Below.mono hb1 ?_)
                · go_grown
                · first | omega | (simp; done) | (simp; omega)
              have hz1_0 : w.heap.size < w1.heap.size := by have := hb1.size; first | omega | (simp at this; omega)
              have hz1_1 : w.heap.size + 1 < w1.heap.size := by have := hb1.size; first | omega | (simp at this; omega)
              have hy1 : w.heap.size ≤ w1.heap.size := hB1.size
              obtain ⟨c1, d1⟩ := bcell hb1
              go_wp2_with fail
              refine (T.out _).mono ?_
              rintro e w102 ⟨rfl, rfl⟩
              go_wp2_with fail
              refine (R.out _).mono ?_
              rintro e w3 ⟨rfl, hb3⟩
              have hB3 : Below w.heap.size w w3 := by
                refine Below.trans ?_ (Below.mono hb3 ?_)
                · go_grown
                · first | omega | (simp; done) | (simp; omega)
              have hz3_0 : w.heap.size < w3.heap.size := by have := hb3.size; first | omega | (simp at this; omega)
              have hz3_1 : w.heap.size + 1 < w3.heap.size := by have := hb3.size; first | omega | (simp at this; omega)
              have hy3 : w.heap.size ≤ w3.heap.size := hB3.size
              obtain ⟨c3, d3⟩ := bcell hb3
              go_wp2_with fail
              refine (O'.out _).mono ?_
              rintro e w4 ⟨rfl, hb4⟩
              have hB4 : Below w.heap.size w w4 := by
                refine Below.trans ?_ (Below.mono hb4 ?_)
                · go_grown
                · first | omega | (simp; done) | (simp; omega)
              have hz4_0 : w.heap.size < w4.heap.size := by have := hb4.size; first | omega | (simp at this; omega)
              have hz4_1 : w.heap.size + 1 < w4.heap.size := by have := hb4.size; first | omega | (simp at this; omega)
              have hy4 : w.heap.size ≤ w4.heap.size := hB4.size
              obtain ⟨c4, d4⟩ := bcell hb4
              have x1 : ObjAt w1 (w.heap.size + 1) 67 [.int .i64 te, .int .i64 tn, .int .i64 tu, .int .i64 tt] := ObjAt.below (objNew (by simp)) hb1
              have x4 := ObjAt.below (ObjAt.below x1 hb3) hb4
              have q1 := x4.cell (i := 1) rfl
              have q2 := x4.cell (i := 2) rfl
              have q3 := x4.cell (i := 3) rfl
              clear x1 x4 c1 d1 c3 d3 c4 d4 hb1 hb3 hb4
              go_wp2_with fail
              go_region_held3 (fun w' => w'.cell? ⟨w.heap.size + 1, 1, none⟩ = some (.int .i64 tn) ∧ w'.cell? ⟨w.heap.size + 1, 2, none⟩ = some (.int .i64 tu) ∧ w'.cell? ⟨w.heap.size + 1, 3, none⟩ = some (.int .i64 tt)) (go_keep)
                (first | (go_at_call 44; refine (G.out _ _ ?_).mono ?_; (first | (with_reducible refine ObjAt.drew ?_; exact objNew (by simp)) | exact objNew (by simp)); rintro e9 w9 ⟨rfl, rfl⟩))
              go_wp2
              go_ret
              exact ⟨rfl, by go_grown⟩
            · rw [show tickE e k o te tn tu tt now = 0 by simp [tickE, hr, hn, ht, hof, ← hg, h8, h9]]
              clear hr he hk ho hn ht hte htn htu htt hkey hof O hg h8
              go_enter Tryz.func145, Tryz.ntmps145
              go_wp2_with fail
              refine (C.out _).mono ?_
              rintro e w1 ⟨rfl, hb1⟩
              have hB1 : Below w.heap.size w w1 := by
                refine Below.trans ?_ (Below.mono hb1 ?_)
                · go_grown
                · first | omega | (simp; done) | (simp; omega)
              have hz1_0 : w.heap.size < w1.heap.size := by have := hb1.size; first | omega | (simp at this; omega)
              have hz1_1 : w.heap.size + 1 < w1.heap.size := by have := hb1.size; first | omega | (simp at this; omega)
              have hy1 : w.heap.size ≤ w1.heap.size := hB1.size
              obtain ⟨c1, d1⟩ := bcell hb1
              go_wp2_with fail
              refine (T.out _).mono ?_
              rintro e w102 ⟨rfl, rfl⟩
              go_wp2_with fail
              refine (R.out _).mono ?_
              rintro e w3 ⟨rfl, hb3⟩
              have hB3 : Below w.heap.size w w3 := by
                refine Below.trans ?_ (Below.mono hb3 ?_)
                · go_grown
                · first | omega | (simp; done) | (simp; omega)
              have hz3_0 : w.heap.size < w3.heap.size := by have := hb3.size; first | omega | (simp at this; omega)
              have hz3_1 : w.heap.size + 1 < w3.heap.size := by have := hb3.size; first | omega | (simp at this; omega)
              have hy3 : w.heap.size ≤ w3.heap.size := hB3.size
              obtain ⟨c3, d3⟩ := bcell hb3
              go_wp2_with fail
              refine (O'.out _).mono ?_
              rintro e w4 ⟨rfl, hb4⟩
              have hB4 : Below w.heap.size w w4 := by
                refine Below.trans ?_ (Below.mono hb4 ?_)
                · go_grown
                · first | omega | (simp; done) | (simp; omega)
              have hz4_0 : w.heap.size < w4.heap.size := by have := hb4.size; first | omega | (simp at this; omega)
              have hz4_1 : w.heap.size + 1 < w4.heap.size := by have := hb4.size; first | omega | (simp at this; omega)
              have hy4 : w.heap.size ≤ w4.heap.size := hB4.size
              obtain ⟨c4, d4⟩ := bcell hb4
              have x1 : ObjAt w1 (w.heap.size + 1) 67 [.int .i64 te, .int .i64 tn, .int .i64 tu, .int .i64 tt] := ObjAt.below (objNew (by simp)) hb1
              have x4 := ObjAt.below (ObjAt.below x1 hb3) hb4
              have q1 := x4.cell (i := 1) rfl
              have q2 := x4.cell (i := 2) rfl
              have q3 := x4.cell (i := 3) rfl
              clear x1 x4 c1 d1 c3 d3 c4 d4 hb1 hb3 hb4
              go_wp2_with fail
              go_region_held3 (fun w' => w'.cell? ⟨w.heap.size + 1, 1, none⟩ = some (.int .i64 tn) ∧ w'.cell? ⟨w.heap.size + 1, 2, none⟩ = some (.int .i64 tu) ∧ w'.cell? ⟨w.heap.size + 1, 3, none⟩ = some (.int .i64 tt)) (go_keep)
                (first | (go_at_call 44; refine (G.out _ _ ?_).mono ?_; (first | (with_reducible refine ObjAt.drew ?_; exact objNew (by simp)) | exact objNew (by simp)); rintro e9 w9 ⟨rfl, rfl⟩))
              go_wp2
              go_ret
              exact ⟨rfl, by go_grown⟩
          · have t8 : (g != tt) = true := bne_iff_ne.2 h8
            rw [show tickE e k o te tn tu tt now = 8 by simp [tickE, hr, hn, ht, hof, ← hg, h8]]
            clear hr he hk ho hn ht hte htn htu htt hkey hof O hg h8
            go_enter Tryz.func145, Tryz.ntmps145
            go_wp2_with fail
            refine (C.out _).mono ?_
            rintro e w1 ⟨rfl, hb1⟩
            have hB1 : Below w.heap.size w w1 := by
              refine Below.trans ?_ (Below.mono hb1 ?_)
              · go_grown
              · first | omega | (simp; done) | (simp; omega)
            have hz1_0 : w.heap.size < w1.heap.size := by have := hb1.size; first | omega | (simp at this; omega)
            have hz1_1 : w.heap.size + 1 < w1.heap.size := by have := hb1.size; first | omega | (simp at this; omega)
            have hy1 : w.heap.size ≤ w1.heap.size := hB1.size
            obtain ⟨c1, d1⟩ := bcell hb1
            go_wp2_with fail
            refine (T.out _).mono ?_
            rintro e w102 ⟨rfl, rfl⟩
            go_wp2_with fail
            refine (R.out _).mono ?_
            rintro e w3 ⟨rfl, hb3⟩
            have hB3 : Below w.heap.size w w3 := by
              refine Below.trans ?_ (Below.mono hb3 ?_)
              · go_grown
              · first | omega | (simp; done) | (simp; omega)
            have hz3_0 : w.heap.size < w3.heap.size := by have := hb3.size; first | omega | (simp at this; omega)
            have hz3_1 : w.heap.size + 1 < w3.heap.size := by have := hb3.size; first | omega | (simp at this; omega)
            have hy3 : w.heap.size ≤ w3.heap.size := hB3.size
            obtain ⟨c3, d3⟩ := bcell hb3
            go_wp2_with fail
            refine (O'.out _).mono ?_
            rintro e w4 ⟨rfl, hb4⟩
            have hB4 : Below w.heap.size w w4 := by
              refine Below.trans ?_ (Below.mono hb4 ?_)
              · go_grown
              · first | omega | (simp; done) | (simp; omega)
            have hz4_0 : w.heap.size < w4.heap.size := by have := hb4.size; first | omega | (simp at this; omega)
            have hz4_1 : w.heap.size + 1 < w4.heap.size := by have := hb4.size; first | omega | (simp at this; omega)
            have hy4 : w.heap.size ≤ w4.heap.size := hB4.size
            obtain ⟨c4, d4⟩ := bcell hb4
            have x1 : ObjAt w1 (w.heap.size + 1) 67 [.int .i64 te, .int .i64 tn, .int .i64 tu, .int .i64 tt] := ObjAt.below (objNew (by simp)) hb1
            have x4 := ObjAt.below (ObjAt.below x1 hb3) hb4
            have q1 := x4.cell (i := 1) rfl
            have q2 := x4.cell (i := 2) rfl
            have q3 := x4.cell (i := 3) rfl
            clear x1 x4 c1 d1 c3 d3 c4 d4 hb1 hb3 hb4
            go_wp2_with fail
            go_region_held3 (fun w' => w'.cell? ⟨w.heap.size + 1, 1, none⟩ = some (.int .i64 tn) ∧ w'.cell? ⟨w.heap.size + 1, 2, none⟩ = some (.int .i64 tu) ∧ w'.cell? ⟨w.heap.size + 1, 3, none⟩ = some (.int .i64 tt)) (go_keep)
              (first | (go_at_call 44; refine (G.out _ _ ?_).mono ?_; (first | (with_reducible refine ObjAt.drew ?_; exact objNew (by simp)) | exact objNew (by simp)); rintro e9 w9 ⟨rfl, rfl⟩))
            go_wp2
            go_ret
            exact ⟨rfl, by go_grown⟩
        · have t1 : (c != 0) = true := bne_iff_ne.2 hc
          rw [show tickE e k o te tn tu tt now = c by simp [tickE, hr, hn, ht, hof, hc]]
          clear hr he hk ho hn ht hte htn htu htt hkey hof hc
          go_enter Tryz.func145, Tryz.ntmps145
          go_wp2_with fail
          refine (C.out _).mono ?_
          rintro e w1 ⟨rfl, hb1⟩
          have hB1 : Below w.heap.size w w1 := by
            refine Below.trans ?_ (Below.mono hb1 ?_)
            · go_grown
            · first | omega | (simp; done) | (simp; omega)
          have hz1_0 : w.heap.size < w1.heap.size := by have := hb1.size; first | omega | (simp at this; omega)
          have hz1_1 : w.heap.size + 1 < w1.heap.size := by have := hb1.size; first | omega | (simp at this; omega)
          have hy1 : w.heap.size ≤ w1.heap.size := hB1.size
          obtain ⟨c1, d1⟩ := bcell hb1
          go_wp2_with fail
          refine (T.out _).mono ?_
          rintro e w102 ⟨rfl, rfl⟩
          go_wp2_with fail
          refine (R.out _).mono ?_
          rintro e w3 ⟨rfl, hb3⟩
          have hB3 : Below w.heap.size w w3 := by
            refine Below.trans ?_ (Below.mono hb3 ?_)
            · go_grown
            · first | omega | (simp; done) | (simp; omega)
          have hz3_0 : w.heap.size < w3.heap.size := by have := hb3.size; first | omega | (simp at this; omega)
          have hz3_1 : w.heap.size + 1 < w3.heap.size := by have := hb3.size; first | omega | (simp at this; omega)
          have hy3 : w.heap.size ≤ w3.heap.size := hB3.size
          obtain ⟨c3, d3⟩ := bcell hb3
          go_wp2_with fail
          refine (O.out _).mono ?_
          rintro e w4 ⟨rfl, hb4⟩
          have hB4 : Below w.heap.size w w4 := by
            refine Below.trans ?_ (Below.mono hb4 ?_)
            · go_grown
            · first | omega | (simp; done) | (simp; omega)
          have hz4_0 : w.heap.size < w4.heap.size := by have := hb4.size; first | omega | (simp at this; omega)
          have hz4_1 : w.heap.size + 1 < w4.heap.size := by have := hb4.size; first | omega | (simp at this; omega)
          have hy4 : w.heap.size ≤ w4.heap.size := hB4.size
          obtain ⟨c4, d4⟩ := bcell hb4
          go_wp2
          go_ret
          exact ⟨rfl, by go_grown⟩
  · rw [show tickE e k o te tn tu tt now = ringE e k o by simp [tickE, hr]]
    obtain ⟨c, hc⟩ : ∃ c, ringE e k o = c := ⟨_, rfl⟩
    have C := hide (fun W => ringCheck_eq hc W)
    rw [hc] at hr ⊢
    have t1 : (c != 0) = true := bne_iff_ne.2 hr
    clear hc hr
    go_enter Tryz.func145, Tryz.ntmps145
    go_wp2_with fail
    refine (C.out _).mono ?_
    rintro e w1 ⟨rfl, hb1⟩
    have hB1 : Below w.heap.size w w1 := by
      refine Below.trans ?_ (Below.mono hb1 ?_)
      · go_grown
      · first | omega | (simp; done) | (simp; omega)
    have hz1_0 : w.heap.size < w1.heap.size := by have := hb1.size; first | omega | (simp at this; omega)
    have hz1_1 : w.heap.size + 1 < w1.heap.size := by have := hb1.size; first | omega | (simp at this; omega)
    have hy1 : w.heap.size ≤ w1.heap.size := hB1.size
    obtain ⟨c1, d1⟩ := bcell hb1
    go_wp2
    go_ret
    exact ⟨rfl, by go_grown⟩
theorem ticketCheck_eq {e k o te tn tu tt now c : Int} (h : tickE e k o te tn tu tt now = c) (w : World) : Calls Tryz.prog 145 #[.agg #[.int .i64 e, .int .i64 k, .int .i64 o], .agg #[.int .i64 te, .int .i64 tn, .int .i64 tu, .int .i64 tt], .int .i64 now] w fun r w' => r = .returned (errV c) ∧ Below w.heap.size w w' := by
  have g := ticketCheck e k o te tn tu tt now w
  rwa [h] at g
end Go.Proofs.YtlnghfmcofmkjaaGreatDoor
