/- foldref1: Token by contract. -/
import Derived.Test.YtlnghfmcofmkjaaGreatDoorTokenC
import Derived.Test.YtlnghfmcofmkjaaGreatDoorRunAnswersProofM15
import Derived.Deep.RegionHeld3
namespace Go.Proofs.YtlnghfmcofmkjaaGreatDoor
open Go.RowKit

set_option maxHeartbeats 2000000 in
theorem rToken_eq {e k o te ta tm tt ad now li c : Int} (hc : tokE e k o te ta tm tt ad now li = c) (w : World) : Calls Tryz.prog 75 #[.agg #[.int .i64 e, .int .i64 k, .int .i64 o], .agg #[.int .i64 te, .int .i64 ta, .int .i64 tm, .int .i64 tt], .int .i64 ad, .int .i64 now, .int .i64 li] w fun r w' => r = .returned (.int .i64 c) ∧ Below w.heap.size w w' := by
  by_cases hr : ringE e k o = 0
  · have C := hide (fun W => rRing_eq (c := 0) hr W)
    obtain ⟨he, hk, ho, _⟩ := ringE_ok hr
    obtain ⟨vA, ha⟩ : ∃ v, inB ad = v := ⟨_, rfl⟩
    have A := hide (fun W => rIn_eq ha W)
    obtain ⟨vT, hn⟩ : ∃ v, tmB now = v := ⟨_, rfl⟩
    have T := hide (fun W => rTime_eq hn W)
    obtain ⟨vL, hl⟩ : ∃ v, tmB li = v := ⟨_, rfl⟩
    have L := hide (fun W => rTime_eq hl W)
    obtain ⟨vD, hd⟩ : ∃ v, inB ta = v := ⟨_, rfl⟩
    have D := hide (fun W => rIn_eq hd W)
    obtain ⟨vF, hf⟩ : ∃ v, tmB tm = v := ⟨_, rfl⟩
    have F := hide (fun W => rTime_eq hf W)
    obtain ⟨vG, hg⟩ : ∃ v, inB tt = v := ⟨_, rfl⟩
    have G := hide (fun W => rIn_eq hg W)
    cases vA
    · obtain rfl : c = 1 := by rw [← hc]; simp [tokE, tokR, hr, ha]
      clear hc hr he hk ho ha hn hl hd hf hg
      go_enter Tryz.func75, Tryz.ntmps75
      go_wp2_with fail
      refine (C.out _).mono ?_
      rintro e w1 ⟨rfl, hb1⟩
      have hB1 : Below w.heap.size w w1 := by
        refine Below.trans ?_ (Below.mono hb1 ?_)
        · go_grown
        · first | omega | (simp; done) | (simp; omega)
      have hz1_0 : w.heap.size < w1.heap.size := by have := hb1.size; first | omega | (simp at this; omega)
      have hz1_1 : w.heap.size + 1 < w1.heap.size := by have := hb1.size; first | omega | (simp at this; omega)
      have hy1 : w.heap.size ≤ w1.heap.size := hB1.size
      obtain ⟨c1, d1⟩ := bcell hb1
      go_wp2_with fail
      refine (A.out _).mono ?_
      rintro e w102 ⟨rfl, rfl⟩
      go_wp2_with fail
      refine (T.out _).mono ?_
      rintro e w103 ⟨rfl, rfl⟩
      go_wp2_with fail
      refine (L.out _).mono ?_
      rintro e w104 ⟨rfl, rfl⟩
      go_wp2_with fail
      refine (D.out _).mono ?_
      rintro e w105 ⟨rfl, rfl⟩
      go_wp2_with fail
      refine (F.out _).mono ?_
      rintro e w106 ⟨rfl, rfl⟩
      go_wp2_with fail
      refine (G.out _).mono ?_
      rintro e w107 ⟨rfl, rfl⟩
      go_wp2
      go_ret
      exact ⟨rfl, by go_grown⟩
    ·
      cases vT
      · obtain rfl : c = 1 := by rw [← hc]; simp [tokE, tokR, hr, hn]
        clear hc hr he hk ho ha hn hl hd hf hg
        go_enter Tryz.func75, Tryz.ntmps75
        go_wp2_with fail
        refine (C.out _).mono ?_
        rintro e w1 ⟨rfl, hb1⟩
        have hB1 : Below w.heap.size w w1 := by
          refine Below.trans ?_ (Below.mono hb1 ?_)
          · go_grown
          · first | omega | (simp; done) | (simp; omega)
        have hz1_0 : w.heap.size < w1.heap.size := by have := hb1.size; first | omega | (simp at this; omega)
        have hz1_1 : w.heap.size + 1 < w1.heap.size := by have := hb1.size; first | omega | (simp at this; omega)
        have hy1 : w.heap.size ≤ w1.heap.size := hB1.size
        obtain ⟨c1, d1⟩ := bcell hb1
        go_wp2_with fail
        refine (A.out _).mono ?_
        rintro e w102 ⟨rfl, rfl⟩
        go_wp2_with fail
        refine (T.out _).mono ?_
        rintro e w103 ⟨rfl, rfl⟩
        go_wp2_with fail
        refine (L.out _).mono ?_
        rintro e w104 ⟨rfl, rfl⟩
        go_wp2_with fail
        refine (D.out _).mono ?_
        rintro e w105 ⟨rfl, rfl⟩
        go_wp2_with fail
        refine (F.out _).mono ?_
        rintro e w106 ⟨rfl, rfl⟩
        go_wp2_with fail
        refine (G.out _).mono ?_
        rintro e w107 ⟨rfl, rfl⟩
        go_wp2
        go_ret
        exact ⟨rfl, by go_grown⟩
      ·
        cases vL
        · obtain rfl : c = 1 := by rw [← hc]; simp [tokE, tokR, hr, hl]
          clear hc hr he hk ho ha hn hl hd hf hg
          go_enter Tryz.func75, Tryz.ntmps75
          go_wp2_with fail
          refine (C.out _).mono ?_
          rintro e w1 ⟨rfl, hb1⟩
          have hB1 : Below w.heap.size w w1 := by
            refine Below.trans ?_ (Below.mono hb1 ?_)
            · go_grown
            · first | omega | (simp; done) | (simp; omega)
          have hz1_0 : w.heap.size < w1.heap.size := by have := hb1.size; first | omega | (simp at this; omega)
          have hz1_1 : w.heap.size + 1 < w1.heap.size := by have := hb1.size; first | omega | (simp at this; omega)
          have hy1 : w.heap.size ≤ w1.heap.size := hB1.size
          obtain ⟨c1, d1⟩ := bcell hb1
          go_wp2_with fail
          refine (A.out _).mono ?_
          rintro e w102 ⟨rfl, rfl⟩
          go_wp2_with fail
          refine (T.out _).mono ?_
          rintro e w103 ⟨rfl, rfl⟩
          go_wp2_with fail
          refine (L.out _).mono ?_
          rintro e w104 ⟨rfl, rfl⟩
          go_wp2_with fail
          refine (D.out _).mono ?_
          rintro e w105 ⟨rfl, rfl⟩
          go_wp2_with fail
          refine (F.out _).mono ?_
          rintro e w106 ⟨rfl, rfl⟩
          go_wp2_with fail
          refine (G.out _).mono ?_
          rintro e w107 ⟨rfl, rfl⟩
          go_wp2
          go_ret
          exact ⟨rfl, by go_grown⟩
        ·
          cases vD
          · obtain rfl : c = 1 := by rw [← hc]; simp [tokE, tokR, hr, hd]
            clear hc hr he hk ho ha hn hl hd hf hg
            go_enter Tryz.func75, Tryz.ntmps75
            go_wp2_with fail
            refine (C.out _).mono ?_
            rintro e w1 ⟨rfl, hb1⟩
            have hB1 : Below w.heap.size w w1 := by
              refine Below.trans ?_ (Below.mono hb1 ?_)
              · go_grown
              · first | omega | (simp; done) | (simp; omega)
            have hz1_0 : w.heap.size < w1.heap.size := by have := hb1.size; first | omega | (simp at this; omega)
            have hz1_1 : w.heap.size + 1 < w1.heap.size := by have := hb1.size; first | omega | (simp at this; omega)
            have hy1 : w.heap.size ≤ w1.heap.size := hB1.size
            obtain ⟨c1, d1⟩ := bcell hb1
            go_wp2_with fail
            refine (A.out _).mono ?_
            rintro e w102 ⟨rfl, rfl⟩
            go_wp2_with fail
            refine (T.out _).mono ?_
            rintro e w103 ⟨rfl, rfl⟩
            go_wp2_with fail
            refine (L.out _).mono ?_
            rintro e w104 ⟨rfl, rfl⟩
            go_wp2_with fail
            refine (D.out _).mono ?_
            rintro e w105 ⟨rfl, rfl⟩
            go_wp2_with fail
            refine (F.out _).mono ?_
            rintro e w106 ⟨rfl, rfl⟩
            go_wp2_with fail
            refine (G.out _).mono ?_
            rintro e w107 ⟨rfl, rfl⟩
            go_wp2
            go_ret
            exact ⟨rfl, by go_grown⟩
          ·
            cases vF
            · obtain rfl : c = 1 := by rw [← hc]; simp [tokE, tokR, hr, hf]
              clear hc hr he hk ho ha hn hl hd hf hg
              go_enter Tryz.func75, Tryz.ntmps75
              go_wp2_with fail
              refine (C.out _).mono ?_
              rintro e w1 ⟨rfl, hb1⟩
              have hB1 : Below w.heap.size w w1 := by
                refine Below.trans ?_ (Below.mono hb1 ?_)
                · go_grown
                · first | omega | (simp; done) | (simp; omega)
              have hz1_0 : w.heap.size < w1.heap.size := by have := hb1.size; first | omega | (simp at this; omega)
              have hz1_1 : w.heap.size + 1 < w1.heap.size := by have := hb1.size; first | omega | (simp at this; omega)
              have hy1 : w.heap.size ≤ w1.heap.size := hB1.size
              obtain ⟨c1, d1⟩ := bcell hb1
              go_wp2_with fail
              refine (A.out _).mono ?_
              rintro e w102 ⟨rfl, rfl⟩
              go_wp2_with fail
              refine (T.out _).mono ?_
              rintro e w103 ⟨rfl, rfl⟩
              go_wp2_with fail
              refine (L.out _).mono ?_
              rintro e w104 ⟨rfl, rfl⟩
              go_wp2_with fail
              refine (D.out _).mono ?_
              rintro e w105 ⟨rfl, rfl⟩
              go_wp2_with fail
              refine (F.out _).mono ?_
              rintro e w106 ⟨rfl, rfl⟩
              go_wp2_with fail
              refine (G.out _).mono ?_
              rintro e w107 ⟨rfl, rfl⟩
              go_wp2
              go_ret
              exact ⟨rfl, by go_grown⟩
            ·
              cases vG
              · obtain rfl : c = 1 := by rw [← hc]; simp [tokE, tokR, hr, hg]
                clear hc hr he hk ho ha hn hl hd hf hg
                go_enter Tryz.func75, Tryz.ntmps75
                go_wp2_with fail
                refine (C.out _).mono ?_
                rintro e w1 ⟨rfl, hb1⟩
                have hB1 : Below w.heap.size w w1 := by
                  refine Below.trans ?_ (Below.mono hb1 ?_)
                  · go_grown
                  · first | omega | (simp; done) | (simp; omega)
                have hz1_0 : w.heap.size < w1.heap.size := by have := hb1.size; first | omega | (simp at this; omega)
                have hz1_1 : w.heap.size + 1 < w1.heap.size := by have := hb1.size; first | omega | (simp at this; omega)
                have hy1 : w.heap.size ≤ w1.heap.size := hB1.size
                obtain ⟨c1, d1⟩ := bcell hb1
                go_wp2_with fail
                refine (A.out _).mono ?_
                rintro e w102 ⟨rfl, rfl⟩
                go_wp2_with fail
                refine (T.out _).mono ?_
                rintro e w103 ⟨rfl, rfl⟩
                go_wp2_with fail
                refine (L.out _).mono ?_
                rintro e w104 ⟨rfl, rfl⟩
                go_wp2_with fail
                refine (D.out _).mono ?_
                rintro e w105 ⟨rfl, rfl⟩
                go_wp2_with fail
                refine (F.out _).mono ?_
                rintro e w106 ⟨rfl, rfl⟩
                go_wp2_with fail
                refine (G.out _).mono ?_
                rintro e w107 ⟨rfl, rfl⟩
                go_wp2
                go_ret
                exact ⟨rfl, by go_grown⟩
              ·
                cases hep : epB te
                · obtain rfl : c = 1 := by rw [← hc]; simp [tokE, tokR, hr, hep]
                  have hh : te < 0 ∨ (0 ≤ te ∧ 100 < te) := by have := epB_false.1 hep; omega
                  clear hc hr he hk ho hep ha hn hl hd hf hg
                  rcases hh with hh | ⟨hh, hh2⟩
                  all_goals
                    go_enter Tryz.func75, Tryz.ntmps75
                    go_wp2_with fail
                    refine (C.out _).mono ?_
                    rintro e w1 ⟨rfl, hb1⟩
                    have hB1 : Below w.heap.size w w1 := by
                      refine Below.trans ?_ (Below.mono hb1 ?_)
                      · go_grown
                      · first | omega | (simp; done) | (simp; omega)
                    have hz1_0 : w.heap.size < w1.heap.size := by have := hb1.size; first | omega | (simp at this; omega)
                    have hz1_1 : w.heap.size + 1 < w1.heap.size := by have := hb1.size; first | omega | (simp at this; omega)
                    have hy1 : w.heap.size ≤ w1.heap.size := hB1.size
                    obtain ⟨c1, d1⟩ := bcell hb1
                    go_wp2_with fail
                    refine (A.out _).mono ?_
                    rintro e w102 ⟨rfl, rfl⟩
                    go_wp2_with fail
                    refine (T.out _).mono ?_
                    rintro e w103 ⟨rfl, rfl⟩
                    go_wp2_with fail
                    refine (L.out _).mono ?_
                    rintro e w104 ⟨rfl, rfl⟩
                    go_wp2_with fail
                    refine (D.out _).mono ?_
                    rintro e w105 ⟨rfl, rfl⟩
                    go_wp2_with fail
                    refine (F.out _).mono ?_
                    rintro e w106 ⟨rfl, rfl⟩
                    go_wp2_with fail
                    refine (G.out _).mono ?_
                    rintro e w107 ⟨rfl, rfl⟩
                    go_wp2
                    go_ret
                    exact ⟨rfl, by go_grown⟩
                · obtain ⟨he0, he1⟩ := he
                  obtain ⟨hte0, hte1⟩ := epB_true.1 hep
                  have hta := inB_true.1 hd
                  have htm := tmB_true.1 hf
                  have htt := inB_true.1 hg
                  have hnow := tmB_true.1 hn
                  have hli := tmB_true.1 hl
                  have hkey := ringOfN_keyT (e := e) (te := te) hk ho
                  obtain ⟨key, kc, hof⟩ : ∃ key c, ringOfN e k o te = (key, c) := ⟨_, _, rfl⟩
                  have O := hide (rKey_eq hof he0 he1 hte0 hte1)
                  rw [hof] at hkey
                  simp only at hkey
                  by_cases hkc : kc = 0
                  · subst hkc
                    have G3 := hide (rTag3 hkey (show (0 : Int) ≤ 1 ∧ (1 : Int) < 999983 by omega) hta (show 0 ≤ tm ∧ tm < 999983 by omega))
                    obtain ⟨g, hg0⟩ : ∃ g, g = tagOf key [1, ta, tm] := ⟨_, rfl⟩
                    rw [← hg0] at G3
                    obtain ⟨htm0, htm1⟩ := htm
                    obtain ⟨hnow0, hnow1⟩ := hnow
                    obtain ⟨hli0, hli1⟩ := hli
                    have base : c = (if g ≠ tt then 8 else if ta ≠ ad then 7 else if now < tm ∨ li < now - tm then 9 else 0) := by
                      rw [← hc]; unfold tokE tokR
                      rw [if_neg (by simp [hr]), if_neg (by simp [hep, ha, hn, hl, hd, hf, hg]), hof, if_neg (by simp), ← hg0]
                    by_cases h8 : g = tt
                    · rw [if_neg (by simp [h8])] at base
                      have t8 : (g != tt) = false := by simp [h8]
                      by_cases h7 : ta = ad
                      · rw [if_neg (by simp [h7])] at base
                        have t7 : (ta != ad) = false := by simp [h7]
                        by_cases h9 : now < tm
                        · rw [if_pos (.inl h9)] at base; subst base
                          clear hc hr hk ho hep ha hn hl hd hf hg hta htt hkey hof hg0 h8 h7
                          go_enter Tryz.func75, Tryz.ntmps75
                          go_wp2_with fail
                          refine (C.out _).mono ?_
                          rintro e w1 ⟨rfl, hb1⟩
                          have hB1 : Below w.heap.size w w1 := by
                            refine Below.trans ?_ (Below.mono hb1 ?_)
                            · go_grown
                            · first | omega | (simp; done) | (simp; omega)
                          have hz1_0 : w.heap.size < w1.heap.size := by have := hb1.size; first | omega | (simp at this; omega)
                          have hz1_1 : w.heap.size + 1 < w1.heap.size := by have := hb1.size; first | omega | (simp at this; omega)
                          have hy1 : w.heap.size ≤ w1.heap.size := hB1.size
                          obtain ⟨c1, d1⟩ := bcell hb1
                          go_wp2_with fail
                          refine (A.out _).mono ?_
                          rintro e w102 ⟨rfl, rfl⟩
                          go_wp2_with fail
                          refine (T.out _).mono ?_
                          rintro e w103 ⟨rfl, rfl⟩
                          go_wp2_with fail
                          refine (L.out _).mono ?_
                          rintro e w104 ⟨rfl, rfl⟩
                          go_wp2_with fail
                          refine (D.out _).mono ?_
                          rintro e w105 ⟨rfl, rfl⟩
                          go_wp2_with fail
                          refine (F.out _).mono ?_
                          rintro e w106 ⟨rfl, rfl⟩
                          go_wp2_with fail
                          refine (G.out _).mono ?_
                          rintro e w107 ⟨rfl, rfl⟩
                          go_wp2_with fail
                          refine (O.out _).mono ?_
                          rintro e w8 ⟨rfl, hb8⟩
                          have hB8 : Below w.heap.size w w8 := by
                            refine Below.trans ?_ (Below.mono hb8 ?_)
                            · go_grown
                            · first | omega | (simp; done) | (simp; omega)
                          have hz8_0 : w.heap.size < w8.heap.size := by have := hb8.size; first | omega | (simp at this; omega)
                          have hz8_1 : w.heap.size + 1 < w8.heap.size := by have := hb8.size; first | omega | (simp at this; omega)
                          have hy8 : w.heap.size ≤ w8.heap.size := hB8.size
                          obtain ⟨c8, d8⟩ := bcell hb8
                          have x1 : ObjAt w1 (w.heap.size + 1) 65 [.int .i64 te, .int .i64 ta, .int .i64 tm, .int .i64 tt] := ObjAt.below (objNew (by simp)) hb1
                          have x4 := ObjAt.below x1 hb8
                          have q1 := x4.cell (i := 1) rfl
                          have q2 := x4.cell (i := 2) rfl
                          have q3 := x4.cell (i := 3) rfl
                          clear x1 x4 c1 d1 c8 d8 hb1 hb8
                          go_wp2_with fail
                          go_region_held3 (fun w' => w'.cell? ⟨w.heap.size + 1, 1, none⟩ = some (.int .i64 ta) ∧ w'.cell? ⟨w.heap.size + 1, 2, none⟩ = some (.int .i64 tm) ∧ w'.cell? ⟨w.heap.size + 1, 3, none⟩ = some (.int .i64 tt)) (go_keep)
                            (first | (go_at_call 17; refine (G3.out _ _ ?_).mono ?_; (first | (with_reducible refine ObjAt.drew ?_; exact objNew (by simp)) | exact objNew (by simp)); rintro e9 w9 ⟨rfl, rfl⟩))
                          go_wp2
                          go_ret
                          exact ⟨rfl, by go_grown⟩
                        · have h9' : tm ≤ now := by omega
                          by_cases h10 : tm + li < now
                          · rw [if_pos (.inr (by omega))] at base; subst base
                            clear hc hr hk ho hep ha hn hl hd hf hg hta htt hkey hof hg0 h8 h7 h9
                            go_enter Tryz.func75, Tryz.ntmps75
                            go_wp2_with fail
                            refine (C.out _).mono ?_
                            rintro e w1 ⟨rfl, hb1⟩
                            have hB1 : Below w.heap.size w w1 := by
                              refine Below.trans ?_ (Below.mono hb1 ?_)
                              · go_grown
                              · first | omega | (simp; done) | (simp; omega)
                            have hz1_0 : w.heap.size < w1.heap.size := by have := hb1.size; first | omega | (simp at this; omega)
                            have hz1_1 : w.heap.size + 1 < w1.heap.size := by have := hb1.size; first | omega | (simp at this; omega)
                            have hy1 : w.heap.size ≤ w1.heap.size := hB1.size
                            obtain ⟨c1, d1⟩ := bcell hb1
                            go_wp2_with fail
                            refine (A.out _).mono ?_
                            rintro e w102 ⟨rfl, rfl⟩
                            go_wp2_with fail
                            refine (T.out _).mono ?_
                            rintro e w103 ⟨rfl, rfl⟩
                            go_wp2_with fail
                            refine (L.out _).mono ?_
                            rintro e w104 ⟨rfl, rfl⟩
                            go_wp2_with fail
                            refine (D.out _).mono ?_
                            rintro e w105 ⟨rfl, rfl⟩
                            go_wp2_with fail
                            refine (F.out _).mono ?_
                            rintro e w106 ⟨rfl, rfl⟩
                            go_wp2_with fail
                            refine (G.out _).mono ?_
                            rintro e w107 ⟨rfl, rfl⟩
                            go_wp2_with fail
                            refine (O.out _).mono ?_
                            rintro e w8 ⟨rfl, hb8⟩
                            have hB8 : Below w.heap.size w w8 := by
                              refine Below.trans ?_ (Below.mono hb8 ?_)
                              · go_grown
                              · first | omega | (simp; done) | (simp; omega)
                            have hz8_0 : w.heap.size < w8.heap.size := by have := hb8.size; first | omega | (simp at this; omega)
                            have hz8_1 : w.heap.size + 1 < w8.heap.size := by have := hb8.size; first | omega | (simp at this; omega)
                            have hy8 : w.heap.size ≤ w8.heap.size := hB8.size
                            obtain ⟨c8, d8⟩ := bcell hb8
                            have x1 : ObjAt w1 (w.heap.size + 1) 65 [.int .i64 te, .int .i64 ta, .int .i64 tm, .int .i64 tt] := ObjAt.below (objNew (by simp)) hb1
                            have x4 := ObjAt.below x1 hb8
                            have q1 := x4.cell (i := 1) rfl
                            have q2 := x4.cell (i := 2) rfl
                            have q3 := x4.cell (i := 3) rfl
                            clear x1 x4 c1 d1 c8 d8 hb1 hb8
                            go_wp2_with fail
                            go_region_held3 (fun w' => w'.cell? ⟨w.heap.size + 1, 1, none⟩ = some (.int .i64 ta) ∧ w'.cell? ⟨w.heap.size + 1, 2, none⟩ = some (.int .i64 tm) ∧ w'.cell? ⟨w.heap.size + 1, 3, none⟩ = some (.int .i64 tt)) (go_keep)
                              (first | (go_at_call 17; refine (G3.out _ _ ?_).mono ?_; (first | (with_reducible refine ObjAt.drew ?_; exact objNew (by simp)) | exact objNew (by simp)); rintro e9 w9 ⟨rfl, rfl⟩))
                            go_wp2
                            go_ret
                            exact ⟨rfl, by go_grown⟩
                          · rw [if_neg (by omega)] at base; subst base
                            have h10' : now ≤ tm + li := by omega
                            clear hc hr hk ho hep ha hn hl hd hf hg hta htt hkey hof hg0 h8 h7 h9 h10
                            go_enter Tryz.func75, Tryz.ntmps75
                            go_wp2_with fail
                            refine (C.out _).mono ?_
                            rintro e w1 ⟨rfl, hb1⟩
                            have hB1 : Below w.heap.size w w1 := by
                              refine Below.trans ?_ (Below.mono hb1 ?_)
                              · go_grown
                              · first | omega | (simp; done) | (simp; omega)
                            have hz1_0 : w.heap.size < w1.heap.size := by have := hb1.size; first | omega | (simp at this; omega)
                            have hz1_1 : w.heap.size + 1 < w1.heap.size := by have := hb1.size; first | omega | (simp at this; omega)
                            have hy1 : w.heap.size ≤ w1.heap.size := hB1.size
                            obtain ⟨c1, d1⟩ := bcell hb1
                            go_wp2_with fail
                            refine (A.out _).mono ?_
                            rintro e w102 ⟨rfl, rfl⟩
                            go_wp2_with fail
                            refine (T.out _).mono ?_
                            rintro e w103 ⟨rfl, rfl⟩
                            go_wp2_with fail
                            refine (L.out _).mono ?_
                            rintro e w104 ⟨rfl, rfl⟩
                            go_wp2_with fail
                            refine (D.out _).mono ?_
                            rintro e w105 ⟨rfl, rfl⟩
                            go_wp2_with fail
                            refine (F.out _).mono ?_
                            rintro e w106 ⟨rfl, rfl⟩
                            go_wp2_with fail
                            refine (G.out _).mono ?_
                            rintro e w107 ⟨rfl, rfl⟩
                            go_wp2_with fail
                            refine (O.out _).mono ?_
                            rintro e w8 ⟨rfl, hb8⟩
                            have hB8 : Below w.heap.size w w8 := by
                              refine Below.trans ?_ (Below.mono hb8 ?_)
                              · go_grown
                              · first | omega | (simp; done) | (simp; omega)
                            have hz8_0 : w.heap.size < w8.heap.size := by have := hb8.size; first | omega | (simp at this; omega)
                            have hz8_1 : w.heap.size + 1 < w8.heap.size := by have := hb8.size; first | omega | (simp at this; omega)
                            have hy8 : w.heap.size ≤ w8.heap.size := hB8.size
                            obtain ⟨c8, d8⟩ := bcell hb8
                            have x1 : ObjAt w1 (w.heap.size + 1) 65 [.int .i64 te, .int .i64 ta, .int .i64 tm, .int .i64 tt] := ObjAt.below (objNew (by simp)) hb1
                            have x4 := ObjAt.below x1 hb8
                            have q1 := x4.cell (i := 1) rfl
                            have q2 := x4.cell (i := 2) rfl
                            have q3 := x4.cell (i := 3) rfl
                            clear x1 x4 c1 d1 c8 d8 hb1 hb8
                            go_wp2_with fail
                            go_region_held3 (fun w' => w'.cell? ⟨w.heap.size + 1, 1, none⟩ = some (.int .i64 ta) ∧ w'.cell? ⟨w.heap.size + 1, 2, none⟩ = some (.int .i64 tm) ∧ w'.cell? ⟨w.heap.size + 1, 3, none⟩ = some (.int .i64 tt)) (go_keep)
                              (first | (go_at_call 17; refine (G3.out _ _ ?_).mono ?_; (first | (with_reducible refine ObjAt.drew ?_; exact objNew (by simp)) | exact objNew (by simp)); rintro e9 w9 ⟨rfl, rfl⟩))
                            go_wp2
                            go_ret
                            exact ⟨rfl, by go_grown⟩
                      · have t7 : (ta != ad) = true := bne_iff_ne.2 h7
                        rw [if_pos h7] at base; subst base
                        clear hc hr hk ho hep ha hn hl hd hf hg hta htt hkey hof hg0 h8 h7
                        go_enter Tryz.func75, Tryz.ntmps75
                        go_wp2_with fail
                        refine (C.out _).mono ?_
                        rintro e w1 ⟨rfl, hb1⟩
                        have hB1 : Below w.heap.size w w1 := by
                          refine Below.trans ?_ (Below.mono hb1 ?_)
                          · go_grown
                          · first | omega | (simp; done) | (simp; omega)
                        have hz1_0 : w.heap.size < w1.heap.size := by have := hb1.size; first | omega | (simp at this; omega)
                        have hz1_1 : w.heap.size + 1 < w1.heap.size := by have := hb1.size; first | omega | (simp at this; omega)
                        have hy1 : w.heap.size ≤ w1.heap.size := hB1.size
                        obtain ⟨c1, d1⟩ := bcell hb1
                        go_wp2_with fail
                        refine (A.out _).mono ?_
                        rintro e w102 ⟨rfl, rfl⟩
                        go_wp2_with fail
                        refine (T.out _).mono ?_
                        rintro e w103 ⟨rfl, rfl⟩
                        go_wp2_with fail
                        refine (L.out _).mono ?_
                        rintro e w104 ⟨rfl, rfl⟩
                        go_wp2_with fail
                        refine (D.out _).mono ?_
                        rintro e w105 ⟨rfl, rfl⟩
                        go_wp2_with fail
                        refine (F.out _).mono ?_
                        rintro e w106 ⟨rfl, rfl⟩
                        go_wp2_with fail
                        refine (G.out _).mono ?_
                        rintro e w107 ⟨rfl, rfl⟩
                        go_wp2_with fail
                        refine (O.out _).mono ?_
                        rintro e w8 ⟨rfl, hb8⟩
                        have hB8 : Below w.heap.size w w8 := by
                          refine Below.trans ?_ (Below.mono hb8 ?_)
                          · go_grown
                          · first | omega | (simp; done) | (simp; omega)
                        have hz8_0 : w.heap.size < w8.heap.size := by have := hb8.size; first | omega | (simp at this; omega)
                        have hz8_1 : w.heap.size + 1 < w8.heap.size := by have := hb8.size; first | omega | (simp at this; omega)
                        have hy8 : w.heap.size ≤ w8.heap.size := hB8.size
                        obtain ⟨c8, d8⟩ := bcell hb8
                        have x1 : ObjAt w1 (w.heap.size + 1) 65 [.int .i64 te, .int .i64 ta, .int .i64 tm, .int .i64 tt] := ObjAt.below (objNew (by simp)) hb1
                        have x4 := ObjAt.below x1 hb8
                        have q1 := x4.cell (i := 1) rfl
                        have q2 := x4.cell (i := 2) rfl
                        have q3 := x4.cell (i := 3) rfl
                        clear x1 x4 c1 d1 c8 d8 hb1 hb8
                        go_wp2_with fail
                        go_region_held3 (fun w' => w'.cell? ⟨w.heap.size + 1, 1, none⟩ = some (.int .i64 ta) ∧ w'.cell? ⟨w.heap.size + 1, 2, none⟩ = some (.int .i64 tm) ∧ w'.cell? ⟨w.heap.size + 1, 3, none⟩ = some (.int .i64 tt)) (go_keep)
                          (first | (go_at_call 17; refine (G3.out _ _ ?_).mono ?_; (first | (with_reducible refine ObjAt.drew ?_; exact objNew (by simp)) | exact objNew (by simp)); rintro e9 w9 ⟨rfl, rfl⟩))
                        go_wp2
                        go_ret
                        exact ⟨rfl, by go_grown⟩
                    · have t8 : (g != tt) = true := bne_iff_ne.2 h8
                      rw [if_pos h8] at base; subst base
                      clear hc hr hk ho hep ha hn hl hd hf hg hta htt hkey hof hg0 h8
                      go_enter Tryz.func75, Tryz.ntmps75
                      go_wp2_with fail
                      refine (C.out _).mono ?_
                      rintro e w1 ⟨rfl, hb1⟩
                      have hB1 : Below w.heap.size w w1 := by
                        refine Below.trans ?_ (Below.mono hb1 ?_)
                        · go_grown
                        · first | omega | (simp; done) | (simp; omega)
                      have hz1_0 : w.heap.size < w1.heap.size := by have := hb1.size; first | omega | (simp at this; omega)
                      have hz1_1 : w.heap.size + 1 < w1.heap.size := by have := hb1.size; first | omega | (simp at this; omega)
                      have hy1 : w.heap.size ≤ w1.heap.size := hB1.size
                      obtain ⟨c1, d1⟩ := bcell hb1
                      go_wp2_with fail
                      refine (A.out _).mono ?_
                      rintro e w102 ⟨rfl, rfl⟩
                      go_wp2_with fail
                      refine (T.out _).mono ?_
                      rintro e w103 ⟨rfl, rfl⟩
                      go_wp2_with fail
                      refine (L.out _).mono ?_
                      rintro e w104 ⟨rfl, rfl⟩
                      go_wp2_with fail
                      refine (D.out _).mono ?_
                      rintro e w105 ⟨rfl, rfl⟩
                      go_wp2_with fail
                      refine (F.out _).mono ?_
                      rintro e w106 ⟨rfl, rfl⟩
                      go_wp2_with fail
                      refine (G.out _).mono ?_
                      rintro e w107 ⟨rfl, rfl⟩
                      go_wp2_with fail
                      refine (O.out _).mono ?_
                      rintro e w8 ⟨rfl, hb8⟩
                      have hB8 : Below w.heap.size w w8 := by
                        refine Below.trans ?_ (Below.mono hb8 ?_)
                        · go_grown
                        · first | omega | (simp; done) | (simp; omega)
                      have hz8_0 : w.heap.size < w8.heap.size := by have := hb8.size; first | omega | (simp at this; omega)
                      have hz8_1 : w.heap.size + 1 < w8.heap.size := by have := hb8.size; first | omega | (simp at this; omega)
                      have hy8 : w.heap.size ≤ w8.heap.size := hB8.size
                      obtain ⟨c8, d8⟩ := bcell hb8
                      have x1 : ObjAt w1 (w.heap.size + 1) 65 [.int .i64 te, .int .i64 ta, .int .i64 tm, .int .i64 tt] := ObjAt.below (objNew (by simp)) hb1
                      have x4 := ObjAt.below x1 hb8
                      have q1 := x4.cell (i := 1) rfl
                      have q2 := x4.cell (i := 2) rfl
                      have q3 := x4.cell (i := 3) rfl
                      clear x1 x4 c1 d1 c8 d8 hb1 hb8
                      go_wp2_with fail
                      go_region_held3 (fun w' => w'.cell? ⟨w.heap.size + 1, 1, none⟩ = some (.int .i64 ta) ∧ w'.cell? ⟨w.heap.size + 1, 2, none⟩ = some (.int .i64 tm) ∧ w'.cell? ⟨w.heap.size + 1, 3, none⟩ = some (.int .i64 tt)) (go_keep)
                        (first | (go_at_call 17; refine (G3.out _ _ ?_).mono ?_; (first | (with_reducible refine ObjAt.drew ?_; exact objNew (by simp)) | exact objNew (by simp)); rintro e9 w9 ⟨rfl, rfl⟩))
                      go_wp2
                      go_ret
                      exact ⟨rfl, by go_grown⟩
                  · have t1 : (kc != 0) = true := bne_iff_ne.2 hkc
                    obtain rfl : c = kc := by rw [← hc]; simp [tokE, tokR, hr, hep, ha, hn, hl, hd, hf, hg, hof, hkc]
                    clear hc hr hk ho hep ha hn hl hd hf hg hta htm htt hkey hof hkc hnow hli
                    go_enter Tryz.func75, Tryz.ntmps75
                    go_wp2_with fail
                    refine (C.out _).mono ?_
                    rintro e w1 ⟨rfl, hb1⟩
                    have hB1 : Below w.heap.size w w1 := by
                      refine Below.trans ?_ (Below.mono hb1 ?_)
                      · go_grown
                      · first | omega | (simp; done) | (simp; omega)
                    have hz1_0 : w.heap.size < w1.heap.size := by have := hb1.size; first | omega | (simp at this; omega)
                    have hz1_1 : w.heap.size + 1 < w1.heap.size := by have := hb1.size; first | omega | (simp at this; omega)
                    have hy1 : w.heap.size ≤ w1.heap.size := hB1.size
                    obtain ⟨c1, d1⟩ := bcell hb1
                    go_wp2_with fail
                    refine (A.out _).mono ?_
                    rintro e w102 ⟨rfl, rfl⟩
                    go_wp2_with fail
                    refine (T.out _).mono ?_
                    rintro e w103 ⟨rfl, rfl⟩
                    go_wp2_with fail
                    refine (L.out _).mono ?_
                    rintro e w104 ⟨rfl, rfl⟩
                    go_wp2_with fail
                    refine (D.out _).mono ?_
                    rintro e w105 ⟨rfl, rfl⟩
                    go_wp2_with fail
                    refine (F.out _).mono ?_
                    rintro e w106 ⟨rfl, rfl⟩
                    go_wp2_with fail
                    refine (G.out _).mono ?_
                    rintro e w107 ⟨rfl, rfl⟩
                    go_wp2_with fail
                    refine (O.out _).mono ?_
                    rintro e w8 ⟨rfl, hb8⟩
                    have hB8 : Below w.heap.size w w8 := by
                      refine Below.trans ?_ (Below.mono hb8 ?_)
                      · go_grown
                      · first | omega | (simp; done) | (simp; omega)
                    have hz8_0 : w.heap.size < w8.heap.size := by have := hb8.size; first | omega | (simp at this; omega)
                    have hz8_1 : w.heap.size + 1 < w8.heap.size := by have := hb8.size; first | omega | (simp at this; omega)
                    have hy8 : w.heap.size ≤ w8.heap.size := hB8.size
                    obtain ⟨c8, d8⟩ := bcell hb8
                    go_wp2
                    go_ret
                    exact ⟨rfl, by go_grown⟩
  · obtain rfl : ringE e k o = c := by rw [← hc]; simp [tokE, hr]
    obtain ⟨c, hcc⟩ : ∃ c, ringE e k o = c := ⟨_, rfl⟩
    have C := hide (fun W => rRing_eq hcc W)
    rw [hcc] at hr ⊢
    have t1 : (c != 0) = true := bne_iff_ne.2 hr
    clear hc hcc hr
    go_enter Tryz.func75, Tryz.ntmps75
    go_wp2_with fail
    refine (C.out _).mono ?_
    rintro e w1 ⟨rfl, hb1⟩
    have hB1 : Below w.heap.size w w1 := by
      refine Below.trans ?_ (Below.mono hb1 ?_)
      · go_grown
      · first | omega | (simp; done) | (simp; omega)
    have hz1_0 : w.heap.size < w1.heap.size := by have := hb1.size; first | omega | (simp at this; omega)
    have hz1_1 : w.heap.size + 1 < w1.heap.size := by have := hb1.size; first | omega | (simp at this; omega)
    have hy1 : w.heap.size ≤ w1.heap.size := hB1.size
    obtain ⟨c1, d1⟩ := bcell hb1
    go_wp2
    go_ret
    exact ⟨rfl, by go_grown⟩
end Go.Proofs.YtlnghfmcofmkjaaGreatDoor
