/- The walk of IssuePlays. -/
import Derived.Test.YtelegodagepeeaaDoorIssueCrash
import Derived.Test.YtelegodagepeeaaDoorIssueMany
import Derived.Test.YtelegodagepeeaaDoorBlkCases
import Derived.Test.YtelegodagepeeaaDoorRBlock
import Derived.Test.YtelegodagepeeaaDoorRRing
import Derived.Test.YtelegodagepeeaaDoorRTag3
import Derived.Test.YtelegodagepeeaaDoorErr
import Derived.Test.YtelegodagepeeaaDoorObj4
import Derived.Deep.RegionHeld3
namespace Go.Proofs.YtelegodagepeeaaDoor
open Go.RowKit

theorem rblock_eq {b : Nat} {n m v c n' m' : Int} (hN : blkNext n m = (v, c, n', m')) (w : World) (h : ObjAt w b 52 [.int .i64 n, .int .i64 m]) (h0 : 0 ≤ n) (h1 : n ≤ m) (h2 : m ≤ 1000) :
    Calls Tryd.prog 28 #[.pointer (some ⟨b, 0, none⟩)] w fun e w' => e = .returned (.tuple #[.int .i64 v, .int .i64 c]) ∧ ObjAt w' b 52 [.int .i64 n', .int .i64 m'] ∧ Kept [b] w w' := by
  have g := rblockNext b n m w h h0 h1 h2
  rwa [hN] at g
set_option maxRecDepth 100000 in
set_option maxHeartbeats 8000000 in
theorem walkIssuePlays (w : World) (e k o : Int) (_w1 : (Lit.int .i64 e).wf = true) (_w2 : (Lit.int .i64 k).wf = true) (_w3 : (Lit.int .i64 o).wf = true) (a : Option Addr) (len cap : Nat) (zs : List Int) (_h1 : len ≤ cap) (_h2 : cap ≤ maxLen) (hr0 : IntRow w a len zs) (a2 : Option Addr) (len2 cap2 : Nat) (us : List Int) (_h3 : len2 ≤ cap2) (_h4 : cap2 ≤ maxLen) (hr20 : IntRow w a2 len2 us) (hE : ErrT w) :
    Calls Tryd.prog 6 #[.agg #[.int .i64 e, .int .i64 k, .int .i64 o], .slice a len cap, .slice a2 len2 cap2] w fun r w' => r = .returned (.bool true) ∧ Below w.heap.size w w' := by
  clear _w1 _w2 _w3
  have HR := hide hr0.split
  have HR2 := hide hr20.split
  unfold maxLen at _h2 _h4
  clear hr0 hr20
  obtain ⟨rc, hrc⟩ : ∃ c, ringE e k o = c := ⟨_, rfl⟩
  have RR := hide (fun W => rRing_eq hrc W)
  have HRC := hide hrc
  clear hrc
  go_enter Tryd.func6, Tryd.ntmps6
  go_wp2_with fail
  refine (issueNew _).mono ?_
  rintro e0 w1 ⟨rfl, hI1, hb1⟩
  have hI1 : IssAt w1 (w.heap.size + 1 + 1) (w.heap.size + 1) 0 0 0 := by simpa using hI1
  have r1 : ObjAt w1 w.heap.size 47 [.int .i64 e, .int .i64 k, .int .i64 o] := ObjAt.below (ObjAt.new _ _ _) hb1
  have hB1 : Below w.heap.size w w1 := bel_a1 hb1
  have hy1 : w.heap.size ≤ w1.heap.size := hB1.size
  have l1 := hI1.1.lt
  have R1 := hide r1
  have HI1 := hide hI1
  clear hb1 hI1 r1
  go_wp2_with fail
  go_loopw [9, 10] (fun mv i wr => ∃ (j : Nat) (n m many : Int), i = .int .i64 j ∧ j ≤ 150 ∧ mv = .int .i64 many ∧ 0 ≤ n ∧ n ≤ m ∧ m ≤ 1000 ∧ 0 ≤ many ∧ many ≤ j ∧ ObjAt wr w.heap.size 47 [.int .i64 e, .int .i64 k, .int .i64 o] ∧ ObjAt wr (w.heap.size + 1 + 1) 102 [.pointer (some ⟨w.heap.size + 1, 0, none⟩), .int .i64 many] ∧ ObjAt wr (w.heap.size + 1) 115 [.int .i64 n, .int .i64 m] ∧ ObjAt wr w1.heap.size 52 [.int .i64 n, .int .i64 m] ∧ Below w.heap.size w wr) (fun _ i _ => 200 - (intOf i).toNat)
  case atStart => exact ⟨0, 0, 0, 0, rfl, by omega, rfl, by omega, by omega, by omega, by omega, by omega, ObjAt.alloc R1.out _, ObjAt.alloc HI1.out.1 _, ObjAt.alloc HI1.out.2.1 _, ObjAt.new _ _ _, by go_grown⟩
  case round =>
    obtain ⟨j, n, m, many, rfl, hj, rfl, hn0, hnm, hm0, hmy0, hmy1, ho_r, ho_i, ho_b, ho_m, hb⟩ := hrel
    clear R1 HI1
    have hyr : w.heap.size ≤ wr.heap.size := hb.size
    have hEr := hE.below hb hE.pos
    have p_r_0 := ho_r.cell (i := 0) rfl
    have p_r_1 := ho_r.cell (i := 1) rfl
    have p_r_2 := ho_r.cell (i := 2) rfl
    have p_i_0 := ho_i.cell (i := 0) rfl
    have p_i_1 := ho_i.cell (i := 1) rfl
    have p_b_0 := ho_b.cell (i := 0) rfl
    have p_b_1 := ho_b.cell (i := 1) rfl
    have p_m_0 := ho_m.cell (i := 0) rfl
    have p_m_1 := ho_m.cell (i := 1) rfl
    have g_m_0 := ho_m.free 0
    have g_m_1 := ho_m.free 1
    have l_r := ho_r.lt
    have l_i := ho_i.lt
    have l_b := ho_b.lt
    have l_m := ho_m.lt
    have O_r := hide ho_r
    have O_i := hide ho_i
    have O_b := hide ho_b
    have O_m := hide ho_m
    clear ho_r ho_i ho_b ho_m
    by_cases h1 : j < len
    · by_cases h2 : j < len2
      · by_cases h3 : j < 150
        · obtain ⟨ab, ao, rfl, hlt1, _, _, hc1⟩ := HR.out.resolve_left (by omega)
          obtain ⟨bb2, bo, rfl, hlt2, _, _, hc2⟩ := HR2.out.resolve_left (by omega)
          have cz := (hb.cell (p := ⟨ab, ao + j, none⟩) hlt1).trans (hc1 j h1)
          have CU := hide (fun (W : World) (hB : Below w.heap.size w W) => (hB.cell (p := ⟨bb2, bo + j, none⟩) hlt2).trans (hc2 j h2))
          have cu := CU.out wr hb
          obtain ⟨z, hz⟩ : ∃ z, z = zs.getD j 0 := ⟨_, rfl⟩
          obtain ⟨u, hu⟩ : ∃ u, u = us.getD j 0 := ⟨_, rfl⟩
          rw [← hz] at cz
          rw [← hu] at CU cu
          clear hz hu hc1 hc2
          by_cases hz0 : z = 0
          · have tz : (z == 0) = true := by simp [hz0]
            subst hz0
            clear tz cu
            go_wp2_with fail
            refine (issueCrash _ _ n m many _ ⟨O_i.out, O_b.out, by omega⟩).mono ?_
            rintro e w21 ⟨rfl, hI21, hk21⟩
            have hB21 : Below w.heap.size w w21 := by
              refine Below.trans ?_ (Kept.below hk21 ?_ ?_)
              · go_grown
              · first | omega | (simp; done) | (simp; omega)
              · intro x hx; simp at hx; omega
            have o21_r : ObjAt w21 (w.heap.size) 47 [.int .i64 e, .int .i64 k, .int .i64 o] := Kept.obj hk21 (O_r.out) (by simp; omega)
            have o21_iss : ObjAt w21 (w.heap.size + 1 + 1) 102 [.pointer (some ⟨w.heap.size + 1, 0, none⟩), .int .i64 many] := hI21.1
            have o21_blk : ObjAt w21 (w.heap.size + 1) 115 [.int .i64 m, .int .i64 m] := hI21.2.1
            have o21_mo : ObjAt w21 (w1.heap.size) 52 [.int .i64 n, .int .i64 m] := Kept.obj hk21 (O_m.out) (by simp; omega)
            clear p_r_0 p_r_1 p_r_2 p_i_0 p_i_1 p_b_0 p_b_1 p_m_0 p_m_1 g_m_0 g_m_1 O_r O_i O_b O_m
            have q21_r_0 := o21_r.cell (i := 0) rfl
            have q21_r_1 := o21_r.cell (i := 1) rfl
            have q21_r_2 := o21_r.cell (i := 2) rfl
            have l21_r := o21_r.lt
            have H21_r := hide o21_r
            clear o21_r
            have q21_iss_0 := o21_iss.cell (i := 0) rfl
            have q21_iss_1 := o21_iss.cell (i := 1) rfl
            have l21_iss := o21_iss.lt
            have H21_iss := hide o21_iss
            clear o21_iss
            have q21_blk_0 := o21_blk.cell (i := 0) rfl
            have q21_blk_1 := o21_blk.cell (i := 1) rfl
            have l21_blk := o21_blk.lt
            have H21_blk := hide o21_blk
            clear o21_blk
            have q21_mo_0 := o21_mo.cell (i := 0) rfl
            have f21_mo_0 := o21_mo.free 0
            have q21_mo_1 := o21_mo.cell (i := 1) rfl
            have f21_mo_1 := o21_mo.free 1
            have l21_mo := o21_mo.lt
            have H21_mo := hide o21_mo
            clear o21_mo
            have hy21 : w.heap.size ≤ w21.heap.size := hB21.size
            clear hk21
            go_wp2
            go_roundw
            case rel => exact ⟨j + 1, m, m, many, by go_num, by omega, rfl, by omega, by omega, by omega, by omega, by omega, ObjAt.setOther (H21_r.out) (by simp; omega) _, ObjAt.setOther (H21_iss.out) (by simp; omega) _, ObjAt.setOther (H21_blk.out) (by simp; omega) _, ObjAt.set (H21_mo.out) 0 _, by go_grown⟩
            case measure => simp [intOf] <;> omega
          · have tz : (z == 0) = false := beq_eq_false_iff_ne.2 hz0
            clear hz0
            go_wp2_with fail
            refine (RR.out _).mono ?_
            rintro e w21 ⟨rfl, hb21⟩
            have hB21 : Below w.heap.size w w21 := by
              refine Below.trans ?_ (Below.mono hb21 ?_)
              · go_grown
              · first | omega | (simp; done) | (simp; omega)
            have o21_r : ObjAt w21 (w.heap.size) 47 [.int .i64 e, .int .i64 k, .int .i64 o] := ObjAt.below (O_r.out) hb21
            have o21_iss : ObjAt w21 (w.heap.size + 1 + 1) 102 [.pointer (some ⟨w.heap.size + 1, 0, none⟩), .int .i64 many] := ObjAt.below (O_i.out) hb21
            have o21_blk : ObjAt w21 (w.heap.size + 1) 115 [.int .i64 n, .int .i64 m] := ObjAt.below (O_b.out) hb21
            have o21_mo : ObjAt w21 (w1.heap.size) 52 [.int .i64 n, .int .i64 m] := ObjAt.below (O_m.out) hb21
            clear p_r_0 p_r_1 p_r_2 p_i_0 p_i_1 p_b_0 p_b_1 p_m_0 p_m_1 g_m_0 g_m_1 O_r O_i O_b O_m
            have q21_r_0 := o21_r.cell (i := 0) rfl
            have q21_r_1 := o21_r.cell (i := 1) rfl
            have q21_r_2 := o21_r.cell (i := 2) rfl
            have l21_r := o21_r.lt
            have H21_r := hide o21_r
            clear o21_r
            have q21_iss_0 := o21_iss.cell (i := 0) rfl
            have q21_iss_1 := o21_iss.cell (i := 1) rfl
            have l21_iss := o21_iss.lt
            have H21_iss := hide o21_iss
            clear o21_iss
            have q21_blk_0 := o21_blk.cell (i := 0) rfl
            have q21_blk_1 := o21_blk.cell (i := 1) rfl
            have l21_blk := o21_blk.lt
            have H21_blk := hide o21_blk
            clear o21_blk
            have q21_mo_0 := o21_mo.cell (i := 0) rfl
            have f21_mo_0 := o21_mo.free 0
            have q21_mo_1 := o21_mo.cell (i := 1) rfl
            have f21_mo_1 := o21_mo.free 1
            have l21_mo := o21_mo.lt
            have H21_mo := hide o21_mo
            clear o21_mo
            have hy21 : w.heap.size ≤ w21.heap.size := hB21.size
            clear hb21
            have cu := CU.out _ hB21
            have lu : bb2 < w21.heap.size := by omega
            by_cases h0 : rc = 0
            ·
              subst h0
              have hre := HRC.out
              obtain ⟨_, hkk, _, _⟩ := ringE_ok hre
              cases hu : tmB u
              ·
                have RT := hide (fun W => rTime_eq hu W)
                have IB := hide (fun W => issue_bad (w.heap.size + 1 + 1) e k o u 1 W (by unfold tkmE; rw [if_neg (by simp [hre]), hu]; simp) (by decide))
                clear hre hkk hu
                go_wp2_with fail
                refine (RT.out _).mono ?_
                rintro e w522 ⟨rfl, rfl⟩
                go_wp2_with fail
                have HS23 : Hid (∀ W, Below w21.heap.size w21 W → W.cell? ⟨w.heap.size, 0, none⟩ = some (.int .i64 e) ∧ W.cell? ⟨w.heap.size, 1, none⟩ = some (.int .i64 k) ∧ W.cell? ⟨w.heap.size, 2, none⟩ = some (.int .i64 o) ∧ W.cell? ⟨bb2, bo + j, none⟩ = some (.int .i64 u)) := by
                  intro W hW
                  refine ⟨(hW.cell (p := ⟨w.heap.size, 0, none⟩) (by simp; omega)).trans (by assumption), (hW.cell (p := ⟨w.heap.size, 1, none⟩) (by simp; omega)).trans (by assumption), (hW.cell (p := ⟨w.heap.size, 2, none⟩) (by simp; omega)).trans (by assumption), (hW.cell (p := ⟨bb2, bo + j, none⟩) (by simp; omega)).trans (by assumption)⟩
                go_region_held3 (fun w' => w'.cell? ⟨w.heap.size, 0, none⟩ = some (.int .i64 e) ∧ w'.cell? ⟨w.heap.size, 1, none⟩ = some (.int .i64 k) ∧ w'.cell? ⟨w.heap.size, 2, none⟩ = some (.int .i64 o) ∧ w'.cell? ⟨bb2, bo + j, none⟩ = some (.int .i64 u)) (first | exact HS23.out _ (by assumption) | (refine HS23.out _ ?_; go_grown) | go_keep)
                  (first | (go_at_call 30; refine (IB.out _).mono ?_; rintro e w23 ⟨rfl, hb23⟩; have hw23 : Below w21.heap.size w21 w23 := Below.trans (by go_grown) (Below.mono hb23 (by first | omega | (simp; done) | (simp; omega))); obtain ⟨c23, d23⟩ := bcell hb23; have hs23 := hb23.size; (try simp at hs23)))
                ·
                  have hB23 : Below w.heap.size w w23 := by
                    refine Below.trans ?_ (Below.mono hb23 ?_)
                    · go_grown
                    · first | omega | (simp; done) | (simp; omega)
                  have o23_r : ObjAt w23 (w.heap.size) 47 [.int .i64 e, .int .i64 k, .int .i64 o] := ObjAt.below (ObjAt.drew (ObjAt.alloc (H21_r.out) _)) hb23
                  have o23_iss : ObjAt w23 (w.heap.size + 1 + 1) 102 [.pointer (some ⟨w.heap.size + 1, 0, none⟩), .int .i64 many] := ObjAt.below (ObjAt.drew (ObjAt.alloc (H21_iss.out) _)) hb23
                  have o23_blk : ObjAt w23 (w.heap.size + 1) 115 [.int .i64 n, .int .i64 m] := ObjAt.below (ObjAt.drew (ObjAt.alloc (H21_blk.out) _)) hb23
                  have o23_mo : ObjAt w23 (w1.heap.size) 52 [.int .i64 n, .int .i64 m] := ObjAt.below (ObjAt.drew (ObjAt.alloc (H21_mo.out) _)) hb23
                  have o23_want : ObjAt w23 (w21.heap.size) 56 [.int .i64 0, .int .i64 0, .int .i64 0, .int .i64 0] := ObjAt.below (ObjAt.drew (objNew (by simp))) hb23
                  clear q21_r_0 q21_r_1 q21_r_2 H21_r q21_iss_0 q21_iss_1 H21_iss q21_blk_0 q21_blk_1 H21_blk q21_mo_0 f21_mo_0 q21_mo_1 f21_mo_1 H21_mo
                  have q23_r_0 := o23_r.cell (i := 0) rfl
                  have q23_r_1 := o23_r.cell (i := 1) rfl
                  have q23_r_2 := o23_r.cell (i := 2) rfl
                  have l23_r := o23_r.lt
                  have H23_r := hide o23_r
                  clear o23_r
                  have q23_iss_0 := o23_iss.cell (i := 0) rfl
                  have q23_iss_1 := o23_iss.cell (i := 1) rfl
                  have l23_iss := o23_iss.lt
                  have H23_iss := hide o23_iss
                  clear o23_iss
                  have q23_blk_0 := o23_blk.cell (i := 0) rfl
                  have q23_blk_1 := o23_blk.cell (i := 1) rfl
                  have l23_blk := o23_blk.lt
                  have H23_blk := hide o23_blk
                  clear o23_blk
                  have q23_mo_0 := o23_mo.cell (i := 0) rfl
                  have f23_mo_0 := o23_mo.free 0
                  have q23_mo_1 := o23_mo.cell (i := 1) rfl
                  have f23_mo_1 := o23_mo.free 1
                  have l23_mo := o23_mo.lt
                  have H23_mo := hide o23_mo
                  clear o23_mo
                  have q23_want_0 := o23_want.cell (i := 0) rfl
                  have f23_want_0 := o23_want.free 0
                  have q23_want_1 := o23_want.cell (i := 1) rfl
                  have f23_want_1 := o23_want.free 1
                  have q23_want_2 := o23_want.cell (i := 2) rfl
                  have f23_want_2 := o23_want.free 2
                  have q23_want_3 := o23_want.cell (i := 3) rfl
                  have f23_want_3 := o23_want.free 3
                  have l23_want := o23_want.lt
                  have H23_want := hide o23_want
                  clear o23_want
                  have hy23 : w.heap.size ≤ w23.heap.size := hB23.size
                  clear hb23
                  clear hw23 HS23 c23 d23 hs23
                  go_wp2_with fail
                  refine (error_any 1 1 _ (hE.below (B := w.heap.size) (by go_grown) hE.pos)).mono ?_
                  rintro e w24 ⟨rfl, hb24⟩
                  have hB24 : Below w.heap.size w w24 := by
                    refine Below.trans ?_ (Below.mono hb24 ?_)
                    · go_grown
                    · first | omega | (simp; done) | (simp; omega)
                  have o24_r : ObjAt w24 (w.heap.size) 47 [.int .i64 e, .int .i64 k, .int .i64 o] := ObjAt.below (ObjAt.alloc (H23_r.out) _) hb24
                  have o24_iss : ObjAt w24 (w.heap.size + 1 + 1) 102 [.pointer (some ⟨w.heap.size + 1, 0, none⟩), .int .i64 many] := ObjAt.below (ObjAt.alloc (H23_iss.out) _) hb24
                  have o24_blk : ObjAt w24 (w.heap.size + 1) 115 [.int .i64 n, .int .i64 m] := ObjAt.below (ObjAt.alloc (H23_blk.out) _) hb24
                  have o24_mo : ObjAt w24 (w1.heap.size) 52 [.int .i64 n, .int .i64 m] := ObjAt.below (ObjAt.alloc (H23_mo.out) _) hb24
                  have o24_want : ObjAt w24 (w21.heap.size) 56 [.int .i64 0, .int .i64 0, .int .i64 0, .int .i64 0] := ObjAt.below (ObjAt.alloc (H23_want.out) _) hb24
                  have o24_t : ObjAt w24 (w23.heap.size) 56 [.int .i64 0, .int .i64 0, .int .i64 0, .int .i64 0] := ObjAt.below (objNew (by simp)) hb24
                  clear q23_r_0 q23_r_1 q23_r_2 H23_r q23_iss_0 q23_iss_1 H23_iss q23_blk_0 q23_blk_1 H23_blk q23_mo_0 f23_mo_0 q23_mo_1 f23_mo_1 H23_mo q23_want_0 f23_want_0 q23_want_1 f23_want_1 q23_want_2 f23_want_2 q23_want_3 f23_want_3 H23_want
                  have q24_r_0 := o24_r.cell (i := 0) rfl
                  have q24_r_1 := o24_r.cell (i := 1) rfl
                  have q24_r_2 := o24_r.cell (i := 2) rfl
                  have l24_r := o24_r.lt
                  have H24_r := hide o24_r
                  clear o24_r
                  have q24_iss_0 := o24_iss.cell (i := 0) rfl
                  have q24_iss_1 := o24_iss.cell (i := 1) rfl
                  have l24_iss := o24_iss.lt
                  have H24_iss := hide o24_iss
                  clear o24_iss
                  have q24_blk_0 := o24_blk.cell (i := 0) rfl
                  have q24_blk_1 := o24_blk.cell (i := 1) rfl
                  have l24_blk := o24_blk.lt
                  have H24_blk := hide o24_blk
                  clear o24_blk
                  have q24_mo_0 := o24_mo.cell (i := 0) rfl
                  have f24_mo_0 := o24_mo.free 0
                  have q24_mo_1 := o24_mo.cell (i := 1) rfl
                  have f24_mo_1 := o24_mo.free 1
                  have l24_mo := o24_mo.lt
                  have H24_mo := hide o24_mo
                  clear o24_mo
                  have q24_want_0 := o24_want.cell (i := 0) rfl
                  have f24_want_0 := o24_want.free 0
                  have q24_want_1 := o24_want.cell (i := 1) rfl
                  have f24_want_1 := o24_want.free 1
                  have q24_want_2 := o24_want.cell (i := 2) rfl
                  have f24_want_2 := o24_want.free 2
                  have q24_want_3 := o24_want.cell (i := 3) rfl
                  have f24_want_3 := o24_want.free 3
                  have l24_want := o24_want.lt
                  have H24_want := hide o24_want
                  clear o24_want
                  have q24_t_0 := o24_t.cell (i := 0) rfl
                  have q24_t_1 := o24_t.cell (i := 1) rfl
                  have q24_t_2 := o24_t.cell (i := 2) rfl
                  have q24_t_3 := o24_t.cell (i := 3) rfl
                  have l24_t := o24_t.lt
                  have H24_t := hide o24_t
                  clear o24_t
                  have hy24 : w.heap.size ≤ w24.heap.size := hB24.size
                  clear hb24
                  go_wp2_with fail
                  refine (issueMany _ (w.heap.size + 1) n m many _ ⟨H24_iss.out, H24_blk.out, by omega⟩).mono ?_
                  rintro e w525 ⟨rfl, rfl⟩
                  go_wp2
                  go_roundw
                  case rel => exact ⟨j + 1, n, m, many, by go_num, by omega, rfl, by omega, by omega, by omega, by omega, by omega, H24_r.out, H24_iss.out, H24_blk.out, H24_mo.out, by go_grown⟩
                  case measure => simp [intOf] <;> omega
                ·
                  have hB23 : Below w.heap.size w w23 := by
                    refine Below.trans ?_ (Below.mono hb23 ?_)
                    · go_grown
                    · first | omega | (simp; done) | (simp; omega)
                  have o23_r : ObjAt w23 (w.heap.size) 47 [.int .i64 e, .int .i64 k, .int .i64 o] := ObjAt.below (ObjAt.drew (ObjAt.alloc (ObjAt.alloc (H21_r.out) _) _)) hb23
                  have o23_iss : ObjAt w23 (w.heap.size + 1 + 1) 102 [.pointer (some ⟨w.heap.size + 1, 0, none⟩), .int .i64 many] := ObjAt.below (ObjAt.drew (ObjAt.alloc (ObjAt.alloc (H21_iss.out) _) _)) hb23
                  have o23_blk : ObjAt w23 (w.heap.size + 1) 115 [.int .i64 n, .int .i64 m] := ObjAt.below (ObjAt.drew (ObjAt.alloc (ObjAt.alloc (H21_blk.out) _) _)) hb23
                  have o23_mo : ObjAt w23 (w1.heap.size) 52 [.int .i64 n, .int .i64 m] := ObjAt.below (ObjAt.drew (ObjAt.alloc (ObjAt.alloc (H21_mo.out) _) _)) hb23
                  have o23_want : ObjAt w23 (w21.heap.size) 56 [.int .i64 0, .int .i64 0, .int .i64 0, .int .i64 0] := ObjAt.below (ObjAt.drew (ObjAt.alloc (objNew (by simp)) _)) hb23
                  have o23_t : ObjAt w23 (w21.heap.size + 1) 56 [.int .i64 0, .int .i64 0, .int .i64 0, .int .i64 0] := ObjAt.below (ObjAt.drew (objNew (by simp))) hb23
                  clear q21_r_0 q21_r_1 q21_r_2 H21_r q21_iss_0 q21_iss_1 H21_iss q21_blk_0 q21_blk_1 H21_blk q21_mo_0 f21_mo_0 q21_mo_1 f21_mo_1 H21_mo
                  have q23_r_0 := o23_r.cell (i := 0) rfl
                  have q23_r_1 := o23_r.cell (i := 1) rfl
                  have q23_r_2 := o23_r.cell (i := 2) rfl
                  have l23_r := o23_r.lt
                  have H23_r := hide o23_r
                  clear o23_r
                  have q23_iss_0 := o23_iss.cell (i := 0) rfl
                  have q23_iss_1 := o23_iss.cell (i := 1) rfl
                  have l23_iss := o23_iss.lt
                  have H23_iss := hide o23_iss
                  clear o23_iss
                  have q23_blk_0 := o23_blk.cell (i := 0) rfl
                  have q23_blk_1 := o23_blk.cell (i := 1) rfl
                  have l23_blk := o23_blk.lt
                  have H23_blk := hide o23_blk
                  clear o23_blk
                  have q23_mo_0 := o23_mo.cell (i := 0) rfl
                  have f23_mo_0 := o23_mo.free 0
                  have q23_mo_1 := o23_mo.cell (i := 1) rfl
                  have f23_mo_1 := o23_mo.free 1
                  have l23_mo := o23_mo.lt
                  have H23_mo := hide o23_mo
                  clear o23_mo
                  have q23_want_0 := o23_want.cell (i := 0) rfl
                  have f23_want_0 := o23_want.free 0
                  have q23_want_1 := o23_want.cell (i := 1) rfl
                  have f23_want_1 := o23_want.free 1
                  have q23_want_2 := o23_want.cell (i := 2) rfl
                  have f23_want_2 := o23_want.free 2
                  have q23_want_3 := o23_want.cell (i := 3) rfl
                  have f23_want_3 := o23_want.free 3
                  have l23_want := o23_want.lt
                  have H23_want := hide o23_want
                  clear o23_want
                  have q23_t_0 := o23_t.cell (i := 0) rfl
                  have q23_t_1 := o23_t.cell (i := 1) rfl
                  have q23_t_2 := o23_t.cell (i := 2) rfl
                  have q23_t_3 := o23_t.cell (i := 3) rfl
                  have l23_t := o23_t.lt
                  have H23_t := hide o23_t
                  clear o23_t
                  have hy23 : w.heap.size ≤ w23.heap.size := hB23.size
                  clear hb23
                  clear hw23 HS23 c23 d23 hs23
                  go_wp2_with fail
                  refine (error_any 1 1 _ (hE.below (B := w.heap.size) (by go_grown) hE.pos)).mono ?_
                  rintro e w24 ⟨rfl, hb24⟩
                  have hB24 : Below w.heap.size w w24 := by
                    refine Below.trans ?_ (Below.mono hb24 ?_)
                    · go_grown
                    · first | omega | (simp; done) | (simp; omega)
                  have o24_r : ObjAt w24 (w.heap.size) 47 [.int .i64 e, .int .i64 k, .int .i64 o] := ObjAt.below (ObjAt.other4 (H23_r.out) (by omega)) hb24
                  have o24_iss : ObjAt w24 (w.heap.size + 1 + 1) 102 [.pointer (some ⟨w.heap.size + 1, 0, none⟩), .int .i64 many] := ObjAt.below (ObjAt.other4 (H23_iss.out) (by omega)) hb24
                  have o24_blk : ObjAt w24 (w.heap.size + 1) 115 [.int .i64 n, .int .i64 m] := ObjAt.below (ObjAt.other4 (H23_blk.out) (by omega)) hb24
                  have o24_mo : ObjAt w24 (w1.heap.size) 52 [.int .i64 n, .int .i64 m] := ObjAt.below (ObjAt.other4 (H23_mo.out) (by omega)) hb24
                  have o24_want : ObjAt w24 (w21.heap.size) 56 [.int .i64 0, .int .i64 0, .int .i64 0, .int .i64 0] := ObjAt.below (ObjAt.other4 (H23_want.out) (by omega)) hb24
                  have o24_t : ObjAt w24 (w21.heap.size + 1) 56 [.int .i64 0, .int .i64 0, .int .i64 0, .int .i64 0] := ObjAt.below (ObjAt.set4 (H23_t.out)) hb24
                  clear q23_r_0 q23_r_1 q23_r_2 H23_r q23_iss_0 q23_iss_1 H23_iss q23_blk_0 q23_blk_1 H23_blk q23_mo_0 f23_mo_0 q23_mo_1 f23_mo_1 H23_mo q23_want_0 f23_want_0 q23_want_1 f23_want_1 q23_want_2 f23_want_2 q23_want_3 f23_want_3 H23_want q23_t_0 q23_t_1 q23_t_2 q23_t_3 H23_t
                  have q24_r_0 := o24_r.cell (i := 0) rfl
                  have q24_r_1 := o24_r.cell (i := 1) rfl
                  have q24_r_2 := o24_r.cell (i := 2) rfl
                  have l24_r := o24_r.lt
                  have H24_r := hide o24_r
                  clear o24_r
                  have q24_iss_0 := o24_iss.cell (i := 0) rfl
                  have q24_iss_1 := o24_iss.cell (i := 1) rfl
                  have l24_iss := o24_iss.lt
                  have H24_iss := hide o24_iss
                  clear o24_iss
                  have q24_blk_0 := o24_blk.cell (i := 0) rfl
                  have q24_blk_1 := o24_blk.cell (i := 1) rfl
                  have l24_blk := o24_blk.lt
                  have H24_blk := hide o24_blk
                  clear o24_blk
                  have q24_mo_0 := o24_mo.cell (i := 0) rfl
                  have f24_mo_0 := o24_mo.free 0
                  have q24_mo_1 := o24_mo.cell (i := 1) rfl
                  have f24_mo_1 := o24_mo.free 1
                  have l24_mo := o24_mo.lt
                  have H24_mo := hide o24_mo
                  clear o24_mo
                  have q24_want_0 := o24_want.cell (i := 0) rfl
                  have f24_want_0 := o24_want.free 0
                  have q24_want_1 := o24_want.cell (i := 1) rfl
                  have f24_want_1 := o24_want.free 1
                  have q24_want_2 := o24_want.cell (i := 2) rfl
                  have f24_want_2 := o24_want.free 2
                  have q24_want_3 := o24_want.cell (i := 3) rfl
                  have f24_want_3 := o24_want.free 3
                  have l24_want := o24_want.lt
                  have H24_want := hide o24_want
                  clear o24_want
                  have q24_t_0 := o24_t.cell (i := 0) rfl
                  have q24_t_1 := o24_t.cell (i := 1) rfl
                  have q24_t_2 := o24_t.cell (i := 2) rfl
                  have q24_t_3 := o24_t.cell (i := 3) rfl
                  have l24_t := o24_t.lt
                  have H24_t := hide o24_t
                  clear o24_t
                  have hy24 : w.heap.size ≤ w24.heap.size := hB24.size
                  clear hb24
                  go_wp2_with fail
                  refine (issueMany _ (w.heap.size + 1) n m many _ ⟨H24_iss.out, H24_blk.out, by omega⟩).mono ?_
                  rintro e w525 ⟨rfl, rfl⟩
                  go_wp2
                  go_roundw
                  case rel => exact ⟨j + 1, n, m, many, by go_num, by omega, rfl, by omega, by omega, by omega, by omega, by omega, H24_r.out, H24_iss.out, H24_blk.out, H24_mo.out, by go_grown⟩
                  case measure => simp [intOf] <;> omega
              ·
                have RT := hide (fun W => rTime_eq hu W)
                go_wp2_with fail
                refine (RT.out _).mono ?_
                rintro e w522 ⟨rfl, rfl⟩
                rcases blkNext_cases n m hn0 hnm hm0 with ⟨hnm2, hfull⟩ | ⟨n', m', hN, hx1, hx2, hx3⟩
                ·
                  subst hnm2
                  go_wp2_with fail
                  refine (rblock_eq (b := w1.heap.size) (n := n) (m := n) (v := 0) (c := 4) (n' := n) (m' := n) (by simp [blkNext, hfull]) _ (ObjAt.alloc (H21_mo.out) _) hn0 (by omega) hm0).mono ?_
                  rintro e w23 ⟨rfl, hM23, hk23⟩
                  have hB23 : Below w.heap.size w w23 := by
                    refine Below.trans ?_ (Kept.below hk23 ?_ ?_)
                    · go_grown
                    · first | omega | (simp; done) | (simp; omega)
                    · intro x hx; simp at hx; omega
                  have o23_r : ObjAt w23 (w.heap.size) 47 [.int .i64 e, .int .i64 k, .int .i64 o] := Kept.obj hk23 (ObjAt.alloc (H21_r.out) _) (by simp; omega)
                  have o23_iss : ObjAt w23 (w.heap.size + 1 + 1) 102 [.pointer (some ⟨w.heap.size + 1, 0, none⟩), .int .i64 many] := Kept.obj hk23 (ObjAt.alloc (H21_iss.out) _) (by simp; omega)
                  have o23_blk : ObjAt w23 (w.heap.size + 1) 115 [.int .i64 n, .int .i64 n] := Kept.obj hk23 (ObjAt.alloc (H21_blk.out) _) (by simp; omega)
                  have o23_mo : ObjAt w23 (w1.heap.size) 52 [.int .i64 n, .int .i64 n] := hM23
                  have o23_want : ObjAt w23 (w21.heap.size) 56 [.int .i64 0, .int .i64 0, .int .i64 0, .int .i64 0] := Kept.obj hk23 (objNew (by simp)) (by simp; omega)
                  clear q21_r_0 q21_r_1 q21_r_2 H21_r q21_iss_0 q21_iss_1 H21_iss q21_blk_0 q21_blk_1 H21_blk q21_mo_0 f21_mo_0 q21_mo_1 f21_mo_1 H21_mo
                  have q23_r_0 := o23_r.cell (i := 0) rfl
                  have q23_r_1 := o23_r.cell (i := 1) rfl
                  have q23_r_2 := o23_r.cell (i := 2) rfl
                  have l23_r := o23_r.lt
                  have H23_r := hide o23_r
                  clear o23_r
                  have q23_iss_0 := o23_iss.cell (i := 0) rfl
                  have q23_iss_1 := o23_iss.cell (i := 1) rfl
                  have l23_iss := o23_iss.lt
                  have H23_iss := hide o23_iss
                  clear o23_iss
                  have q23_blk_0 := o23_blk.cell (i := 0) rfl
                  have q23_blk_1 := o23_blk.cell (i := 1) rfl
                  have l23_blk := o23_blk.lt
                  have H23_blk := hide o23_blk
                  clear o23_blk
                  have q23_mo_0 := o23_mo.cell (i := 0) rfl
                  have f23_mo_0 := o23_mo.free 0
                  have q23_mo_1 := o23_mo.cell (i := 1) rfl
                  have f23_mo_1 := o23_mo.free 1
                  have l23_mo := o23_mo.lt
                  have H23_mo := hide o23_mo
                  clear o23_mo
                  have q23_want_0 := o23_want.cell (i := 0) rfl
                  have f23_want_0 := o23_want.free 0
                  have q23_want_1 := o23_want.cell (i := 1) rfl
                  have f23_want_1 := o23_want.free 1
                  have q23_want_2 := o23_want.cell (i := 2) rfl
                  have f23_want_2 := o23_want.free 2
                  have q23_want_3 := o23_want.cell (i := 3) rfl
                  have f23_want_3 := o23_want.free 3
                  have l23_want := o23_want.lt
                  have H23_want := hide o23_want
                  clear o23_want
                  have hy23 : w.heap.size ≤ w23.heap.size := hB23.size
                  clear hk23
                  have cu := CU.out _ hB23
                  have lu : bb2 < w23.heap.size := by omega
                  have IF := hide (fun (W : World) h => issue_full (w.heap.size + 1 + 1) (w.heap.size + 1) e k o u n many W h hre hu hn0 hm0 (by omega))
                  have hI0 : IssAt w23 (w.heap.size + 1 + 1) (w.heap.size + 1) n n many := ⟨H23_iss.out, H23_blk.out, by omega⟩
                  have HI0 := hide hI0
                  clear hI0
                  go_wp2_with fail
                  have HS24 : Hid (∀ W, Kept [w.heap.size + 1 + 1, w.heap.size + 1] w23 W → W.cell? ⟨w.heap.size, 0, none⟩ = some (.int .i64 e) ∧ W.cell? ⟨w.heap.size, 1, none⟩ = some (.int .i64 k) ∧ W.cell? ⟨w.heap.size, 2, none⟩ = some (.int .i64 o) ∧ W.cell? ⟨bb2, bo + j, none⟩ = some (.int .i64 u)) := by
                    intro W hW
                    refine ⟨(hW.cell (p := ⟨w.heap.size, 0, none⟩) (by simp; omega) (by simp; omega)).trans (by assumption), (hW.cell (p := ⟨w.heap.size, 1, none⟩) (by simp; omega) (by simp; omega)).trans (by assumption), (hW.cell (p := ⟨w.heap.size, 2, none⟩) (by simp; omega) (by simp; omega)).trans (by assumption), (hW.cell (p := ⟨bb2, bo + j, none⟩) (by simp; omega) (by simp; omega)).trans (by assumption)⟩
                  go_region_held3 (fun w' => w'.cell? ⟨w.heap.size, 0, none⟩ = some (.int .i64 e) ∧ w'.cell? ⟨w.heap.size, 1, none⟩ = some (.int .i64 k) ∧ w'.cell? ⟨w.heap.size, 2, none⟩ = some (.int .i64 o) ∧ w'.cell? ⟨bb2, bo + j, none⟩ = some (.int .i64 u)) (first | exact HS24.out _ (by assumption) | (refine HS24.out _ ?_; (first | exact Kept.alloc (by assumption) _ | exact Kept.new4 (by assumption) (Or.inr (by first | omega | (simp; omega))))) | go_keep)
                    (first | (go_at_call 30; refine (IF.out _ (IssAt.below HI0.out (by go_grown))).mono ?_; rintro e w24 ⟨rfl, hI24, hk24⟩; have hw24 : Kept [w.heap.size + 1 + 1, w.heap.size + 1] w23 w24 := Kept.trans (Kept.of_below (by go_grown) _) hk24; obtain ⟨c24, d24⟩ := kcell hk24; have hs24 := hk24.size; (try simp at hs24); have hn24 : ¬ w23.heap.size ∈ [w.heap.size + 1 + 1, w.heap.size + 1] := (by simp; omega)))
                  ·
                    have hB24 : Below w.heap.size w w24 := by
                      refine Below.trans ?_ (Kept.below hk24 ?_ ?_)
                      · go_grown
                      · first | omega | (simp; done) | (simp; omega)
                      · intro x hx; simp at hx; omega
                    have o24_r : ObjAt w24 (w.heap.size) 47 [.int .i64 e, .int .i64 k, .int .i64 o] := Kept.obj hk24 (ObjAt.drew (H23_r.out)) (by simp; omega)
                    have o24_iss : ObjAt w24 (w.heap.size + 1 + 1) 102 [.pointer (some ⟨w.heap.size + 1, 0, none⟩), .int .i64 many] := hI24.1
                    have o24_blk : ObjAt w24 (w.heap.size + 1) 115 [.int .i64 n, .int .i64 n] := hI24.2.1
                    have o24_mo : ObjAt w24 (w1.heap.size) 52 [.int .i64 n, .int .i64 n] := Kept.obj hk24 (ObjAt.drew (H23_mo.out)) (by simp; omega)
                    have o24_want : ObjAt w24 (w21.heap.size) 56 [.int .i64 0, .int .i64 0, .int .i64 0, .int .i64 0] := Kept.obj hk24 (ObjAt.drew (H23_want.out)) (by simp; omega)
                    clear q23_r_0 q23_r_1 q23_r_2 H23_r q23_iss_0 q23_iss_1 H23_iss q23_blk_0 q23_blk_1 H23_blk q23_mo_0 f23_mo_0 q23_mo_1 f23_mo_1 H23_mo q23_want_0 f23_want_0 q23_want_1 f23_want_1 q23_want_2 f23_want_2 q23_want_3 f23_want_3 H23_want
                    have q24_r_0 := o24_r.cell (i := 0) rfl
                    have q24_r_1 := o24_r.cell (i := 1) rfl
                    have q24_r_2 := o24_r.cell (i := 2) rfl
                    have l24_r := o24_r.lt
                    have H24_r := hide o24_r
                    clear o24_r
                    have q24_iss_0 := o24_iss.cell (i := 0) rfl
                    have q24_iss_1 := o24_iss.cell (i := 1) rfl
                    have l24_iss := o24_iss.lt
                    have H24_iss := hide o24_iss
                    clear o24_iss
                    have q24_blk_0 := o24_blk.cell (i := 0) rfl
                    have q24_blk_1 := o24_blk.cell (i := 1) rfl
                    have l24_blk := o24_blk.lt
                    have H24_blk := hide o24_blk
                    clear o24_blk
                    have q24_mo_0 := o24_mo.cell (i := 0) rfl
                    have f24_mo_0 := o24_mo.free 0
                    have q24_mo_1 := o24_mo.cell (i := 1) rfl
                    have f24_mo_1 := o24_mo.free 1
                    have l24_mo := o24_mo.lt
                    have H24_mo := hide o24_mo
                    clear o24_mo
                    have q24_want_0 := o24_want.cell (i := 0) rfl
                    have f24_want_0 := o24_want.free 0
                    have q24_want_1 := o24_want.cell (i := 1) rfl
                    have f24_want_1 := o24_want.free 1
                    have q24_want_2 := o24_want.cell (i := 2) rfl
                    have f24_want_2 := o24_want.free 2
                    have q24_want_3 := o24_want.cell (i := 3) rfl
                    have f24_want_3 := o24_want.free 3
                    have l24_want := o24_want.lt
                    have H24_want := hide o24_want
                    clear o24_want
                    have hy24 : w.heap.size ≤ w24.heap.size := hB24.size
                    clear hk24
                    clear hw24 HS24 c24 d24 hs24
                    go_wp2_with fail
                    refine (error_any 4 4 _ (hE.below (B := w.heap.size) (by go_grown) hE.pos)).mono ?_
                    rintro e w25 ⟨rfl, hb25⟩
                    have hB25 : Below w.heap.size w w25 := by
                      refine Below.trans ?_ (Below.mono hb25 ?_)
                      · go_grown
                      · first | omega | (simp; done) | (simp; omega)
                    have o25_r : ObjAt w25 (w.heap.size) 47 [.int .i64 e, .int .i64 k, .int .i64 o] := ObjAt.below (ObjAt.alloc (H24_r.out) _) hb25
                    have o25_iss : ObjAt w25 (w.heap.size + 1 + 1) 102 [.pointer (some ⟨w.heap.size + 1, 0, none⟩), .int .i64 many] := ObjAt.below (ObjAt.alloc (H24_iss.out) _) hb25
                    have o25_blk : ObjAt w25 (w.heap.size + 1) 115 [.int .i64 n, .int .i64 n] := ObjAt.below (ObjAt.alloc (H24_blk.out) _) hb25
                    have o25_mo : ObjAt w25 (w1.heap.size) 52 [.int .i64 n, .int .i64 n] := ObjAt.below (ObjAt.alloc (H24_mo.out) _) hb25
                    have o25_want : ObjAt w25 (w21.heap.size) 56 [.int .i64 0, .int .i64 0, .int .i64 0, .int .i64 0] := ObjAt.below (ObjAt.alloc (H24_want.out) _) hb25
                    have o25_t : ObjAt w25 (w24.heap.size) 56 [.int .i64 0, .int .i64 0, .int .i64 0, .int .i64 0] := ObjAt.below (objNew (by simp)) hb25
                    clear q24_r_0 q24_r_1 q24_r_2 H24_r q24_iss_0 q24_iss_1 H24_iss q24_blk_0 q24_blk_1 H24_blk q24_mo_0 f24_mo_0 q24_mo_1 f24_mo_1 H24_mo q24_want_0 f24_want_0 q24_want_1 f24_want_1 q24_want_2 f24_want_2 q24_want_3 f24_want_3 H24_want
                    have q25_r_0 := o25_r.cell (i := 0) rfl
                    have q25_r_1 := o25_r.cell (i := 1) rfl
                    have q25_r_2 := o25_r.cell (i := 2) rfl
                    have l25_r := o25_r.lt
                    have H25_r := hide o25_r
                    clear o25_r
                    have q25_iss_0 := o25_iss.cell (i := 0) rfl
                    have q25_iss_1 := o25_iss.cell (i := 1) rfl
                    have l25_iss := o25_iss.lt
                    have H25_iss := hide o25_iss
                    clear o25_iss
                    have q25_blk_0 := o25_blk.cell (i := 0) rfl
                    have q25_blk_1 := o25_blk.cell (i := 1) rfl
                    have l25_blk := o25_blk.lt
                    have H25_blk := hide o25_blk
                    clear o25_blk
                    have q25_mo_0 := o25_mo.cell (i := 0) rfl
                    have f25_mo_0 := o25_mo.free 0
                    have q25_mo_1 := o25_mo.cell (i := 1) rfl
                    have f25_mo_1 := o25_mo.free 1
                    have l25_mo := o25_mo.lt
                    have H25_mo := hide o25_mo
                    clear o25_mo
                    have q25_want_0 := o25_want.cell (i := 0) rfl
                    have f25_want_0 := o25_want.free 0
                    have q25_want_1 := o25_want.cell (i := 1) rfl
                    have f25_want_1 := o25_want.free 1
                    have q25_want_2 := o25_want.cell (i := 2) rfl
                    have f25_want_2 := o25_want.free 2
                    have q25_want_3 := o25_want.cell (i := 3) rfl
                    have f25_want_3 := o25_want.free 3
                    have l25_want := o25_want.lt
                    have H25_want := hide o25_want
                    clear o25_want
                    have q25_t_0 := o25_t.cell (i := 0) rfl
                    have q25_t_1 := o25_t.cell (i := 1) rfl
                    have q25_t_2 := o25_t.cell (i := 2) rfl
                    have q25_t_3 := o25_t.cell (i := 3) rfl
                    have l25_t := o25_t.lt
                    have H25_t := hide o25_t
                    clear o25_t
                    have hy25 : w.heap.size ≤ w25.heap.size := hB25.size
                    clear hb25
                    go_wp2_with fail
                    refine (issueMany _ (w.heap.size + 1) n n many _ ⟨H25_iss.out, H25_blk.out, by omega⟩).mono ?_
                    rintro e w526 ⟨rfl, rfl⟩
                    go_wp2
                    go_roundw
                    case rel => exact ⟨j + 1, n, n, many, by go_num, by omega, rfl, by omega, by omega, by omega, by omega, by omega, H25_r.out, H25_iss.out, H25_blk.out, H25_mo.out, by go_grown⟩
                    case measure => simp [intOf] <;> omega
                  ·
                    have hB24 : Below w.heap.size w w24 := by
                      refine Below.trans ?_ (Kept.below hk24 ?_ ?_)
                      · go_grown
                      · first | omega | (simp; done) | (simp; omega)
                      · intro x hx; simp at hx; omega
                    have o24_r : ObjAt w24 (w.heap.size) 47 [.int .i64 e, .int .i64 k, .int .i64 o] := Kept.obj hk24 (ObjAt.drew (ObjAt.alloc (H23_r.out) _)) (by simp; omega)
                    have o24_iss : ObjAt w24 (w.heap.size + 1 + 1) 102 [.pointer (some ⟨w.heap.size + 1, 0, none⟩), .int .i64 many] := hI24.1
                    have o24_blk : ObjAt w24 (w.heap.size + 1) 115 [.int .i64 n, .int .i64 n] := hI24.2.1
                    have o24_mo : ObjAt w24 (w1.heap.size) 52 [.int .i64 n, .int .i64 n] := Kept.obj hk24 (ObjAt.drew (ObjAt.alloc (H23_mo.out) _)) (by simp; omega)
                    have o24_want : ObjAt w24 (w21.heap.size) 56 [.int .i64 0, .int .i64 0, .int .i64 0, .int .i64 0] := Kept.obj hk24 (ObjAt.drew (ObjAt.alloc (H23_want.out) _)) (by simp; omega)
                    have o24_t : ObjAt w24 (w23.heap.size) 56 [.int .i64 0, .int .i64 0, .int .i64 0, .int .i64 0] := Kept.obj hk24 (ObjAt.drew (objNew (by simp))) (by simp; omega)
                    clear q23_r_0 q23_r_1 q23_r_2 H23_r q23_iss_0 q23_iss_1 H23_iss q23_blk_0 q23_blk_1 H23_blk q23_mo_0 f23_mo_0 q23_mo_1 f23_mo_1 H23_mo q23_want_0 f23_want_0 q23_want_1 f23_want_1 q23_want_2 f23_want_2 q23_want_3 f23_want_3 H23_want
                    have q24_r_0 := o24_r.cell (i := 0) rfl
                    have q24_r_1 := o24_r.cell (i := 1) rfl
                    have q24_r_2 := o24_r.cell (i := 2) rfl
                    have l24_r := o24_r.lt
                    have H24_r := hide o24_r
                    clear o24_r
                    have q24_iss_0 := o24_iss.cell (i := 0) rfl
                    have q24_iss_1 := o24_iss.cell (i := 1) rfl
                    have l24_iss := o24_iss.lt
                    have H24_iss := hide o24_iss
                    clear o24_iss
                    have q24_blk_0 := o24_blk.cell (i := 0) rfl
                    have q24_blk_1 := o24_blk.cell (i := 1) rfl
                    have l24_blk := o24_blk.lt
                    have H24_blk := hide o24_blk
                    clear o24_blk
                    have q24_mo_0 := o24_mo.cell (i := 0) rfl
                    have f24_mo_0 := o24_mo.free 0
                    have q24_mo_1 := o24_mo.cell (i := 1) rfl
                    have f24_mo_1 := o24_mo.free 1
                    have l24_mo := o24_mo.lt
                    have H24_mo := hide o24_mo
                    clear o24_mo
                    have q24_want_0 := o24_want.cell (i := 0) rfl
                    have f24_want_0 := o24_want.free 0
                    have q24_want_1 := o24_want.cell (i := 1) rfl
                    have f24_want_1 := o24_want.free 1
                    have q24_want_2 := o24_want.cell (i := 2) rfl
                    have f24_want_2 := o24_want.free 2
                    have q24_want_3 := o24_want.cell (i := 3) rfl
                    have f24_want_3 := o24_want.free 3
                    have l24_want := o24_want.lt
                    have H24_want := hide o24_want
                    clear o24_want
                    have q24_t_0 := o24_t.cell (i := 0) rfl
                    have q24_t_1 := o24_t.cell (i := 1) rfl
                    have q24_t_2 := o24_t.cell (i := 2) rfl
                    have q24_t_3 := o24_t.cell (i := 3) rfl
                    have l24_t := o24_t.lt
                    have H24_t := hide o24_t
                    clear o24_t
                    have hy24 : w.heap.size ≤ w24.heap.size := hB24.size
                    clear hk24
                    clear hw24 HS24 c24 d24 hs24
                    go_wp2_with fail
                    refine (error_any 4 4 _ (hE.below (B := w.heap.size) (by go_grown) hE.pos)).mono ?_
                    rintro e w25 ⟨rfl, hb25⟩
                    have hB25 : Below w.heap.size w w25 := by
                      refine Below.trans ?_ (Below.mono hb25 ?_)
                      · go_grown
                      · first | omega | (simp; done) | (simp; omega)
                    have o25_r : ObjAt w25 (w.heap.size) 47 [.int .i64 e, .int .i64 k, .int .i64 o] := ObjAt.below (ObjAt.other4 (H24_r.out) (by omega)) hb25
                    have o25_iss : ObjAt w25 (w.heap.size + 1 + 1) 102 [.pointer (some ⟨w.heap.size + 1, 0, none⟩), .int .i64 many] := ObjAt.below (ObjAt.other4 (H24_iss.out) (by omega)) hb25
                    have o25_blk : ObjAt w25 (w.heap.size + 1) 115 [.int .i64 n, .int .i64 n] := ObjAt.below (ObjAt.other4 (H24_blk.out) (by omega)) hb25
                    have o25_mo : ObjAt w25 (w1.heap.size) 52 [.int .i64 n, .int .i64 n] := ObjAt.below (ObjAt.other4 (H24_mo.out) (by omega)) hb25
                    have o25_want : ObjAt w25 (w21.heap.size) 56 [.int .i64 0, .int .i64 0, .int .i64 0, .int .i64 0] := ObjAt.below (ObjAt.other4 (H24_want.out) (by omega)) hb25
                    have o25_t : ObjAt w25 (w23.heap.size) 56 [.int .i64 0, .int .i64 0, .int .i64 0, .int .i64 0] := ObjAt.below (ObjAt.set4 (H24_t.out)) hb25
                    clear q24_r_0 q24_r_1 q24_r_2 H24_r q24_iss_0 q24_iss_1 H24_iss q24_blk_0 q24_blk_1 H24_blk q24_mo_0 f24_mo_0 q24_mo_1 f24_mo_1 H24_mo q24_want_0 f24_want_0 q24_want_1 f24_want_1 q24_want_2 f24_want_2 q24_want_3 f24_want_3 H24_want q24_t_0 q24_t_1 q24_t_2 q24_t_3 H24_t
                    have q25_r_0 := o25_r.cell (i := 0) rfl
                    have q25_r_1 := o25_r.cell (i := 1) rfl
                    have q25_r_2 := o25_r.cell (i := 2) rfl
                    have l25_r := o25_r.lt
                    have H25_r := hide o25_r
                    clear o25_r
                    have q25_iss_0 := o25_iss.cell (i := 0) rfl
                    have q25_iss_1 := o25_iss.cell (i := 1) rfl
                    have l25_iss := o25_iss.lt
                    have H25_iss := hide o25_iss
                    clear o25_iss
                    have q25_blk_0 := o25_blk.cell (i := 0) rfl
                    have q25_blk_1 := o25_blk.cell (i := 1) rfl
                    have l25_blk := o25_blk.lt
                    have H25_blk := hide o25_blk
                    clear o25_blk
                    have q25_mo_0 := o25_mo.cell (i := 0) rfl
                    have f25_mo_0 := o25_mo.free 0
                    have q25_mo_1 := o25_mo.cell (i := 1) rfl
                    have f25_mo_1 := o25_mo.free 1
                    have l25_mo := o25_mo.lt
                    have H25_mo := hide o25_mo
                    clear o25_mo
                    have q25_want_0 := o25_want.cell (i := 0) rfl
                    have f25_want_0 := o25_want.free 0
                    have q25_want_1 := o25_want.cell (i := 1) rfl
                    have f25_want_1 := o25_want.free 1
                    have q25_want_2 := o25_want.cell (i := 2) rfl
                    have f25_want_2 := o25_want.free 2
                    have q25_want_3 := o25_want.cell (i := 3) rfl
                    have f25_want_3 := o25_want.free 3
                    have l25_want := o25_want.lt
                    have H25_want := hide o25_want
                    clear o25_want
                    have q25_t_0 := o25_t.cell (i := 0) rfl
                    have q25_t_1 := o25_t.cell (i := 1) rfl
                    have q25_t_2 := o25_t.cell (i := 2) rfl
                    have q25_t_3 := o25_t.cell (i := 3) rfl
                    have l25_t := o25_t.lt
                    have H25_t := hide o25_t
                    clear o25_t
                    have hy25 : w.heap.size ≤ w25.heap.size := hB25.size
                    clear hb25
                    go_wp2_with fail
                    refine (issueMany _ (w.heap.size + 1) n n many _ ⟨H25_iss.out, H25_blk.out, by omega⟩).mono ?_
                    rintro e w526 ⟨rfl, rfl⟩
                    go_wp2
                    go_roundw
                    case rel => exact ⟨j + 1, n, n, many, by go_num, by omega, rfl, by omega, by omega, by omega, by omega, by omega, H25_r.out, H25_iss.out, H25_blk.out, H25_mo.out, by go_grown⟩
                    case measure => simp [intOf] <;> omega
                ·
                  go_wp2_with fail
                  refine (rblock_eq (b := w1.heap.size) hN _ (ObjAt.alloc (H21_mo.out) _) hn0 hnm hm0).mono ?_
                  rintro e w23 ⟨rfl, hM23, hk23⟩
                  have hB23 : Below w.heap.size w w23 := by
                    refine Below.trans ?_ (Kept.below hk23 ?_ ?_)
                    · go_grown
                    · first | omega | (simp; done) | (simp; omega)
                    · intro x hx; simp at hx; omega
                  have o23_r : ObjAt w23 (w.heap.size) 47 [.int .i64 e, .int .i64 k, .int .i64 o] := Kept.obj hk23 (ObjAt.alloc (H21_r.out) _) (by simp; omega)
                  have o23_iss : ObjAt w23 (w.heap.size + 1 + 1) 102 [.pointer (some ⟨w.heap.size + 1, 0, none⟩), .int .i64 many] := Kept.obj hk23 (ObjAt.alloc (H21_iss.out) _) (by simp; omega)
                  have o23_blk : ObjAt w23 (w.heap.size + 1) 115 [.int .i64 n, .int .i64 m] := Kept.obj hk23 (ObjAt.alloc (H21_blk.out) _) (by simp; omega)
                  have o23_mo : ObjAt w23 (w1.heap.size) 52 [.int .i64 n', .int .i64 m'] := hM23
                  have o23_want : ObjAt w23 (w21.heap.size) 56 [.int .i64 0, .int .i64 0, .int .i64 0, .int .i64 0] := Kept.obj hk23 (objNew (by simp)) (by simp; omega)
                  clear q21_r_0 q21_r_1 q21_r_2 H21_r q21_iss_0 q21_iss_1 H21_iss q21_blk_0 q21_blk_1 H21_blk q21_mo_0 f21_mo_0 q21_mo_1 f21_mo_1 H21_mo
                  have q23_r_0 := o23_r.cell (i := 0) rfl
                  have q23_r_1 := o23_r.cell (i := 1) rfl
                  have q23_r_2 := o23_r.cell (i := 2) rfl
                  have l23_r := o23_r.lt
                  have H23_r := hide o23_r
                  clear o23_r
                  have q23_iss_0 := o23_iss.cell (i := 0) rfl
                  have q23_iss_1 := o23_iss.cell (i := 1) rfl
                  have l23_iss := o23_iss.lt
                  have H23_iss := hide o23_iss
                  clear o23_iss
                  have q23_blk_0 := o23_blk.cell (i := 0) rfl
                  have q23_blk_1 := o23_blk.cell (i := 1) rfl
                  have l23_blk := o23_blk.lt
                  have H23_blk := hide o23_blk
                  clear o23_blk
                  have q23_mo_0 := o23_mo.cell (i := 0) rfl
                  have f23_mo_0 := o23_mo.free 0
                  have q23_mo_1 := o23_mo.cell (i := 1) rfl
                  have f23_mo_1 := o23_mo.free 1
                  have l23_mo := o23_mo.lt
                  have H23_mo := hide o23_mo
                  clear o23_mo
                  have q23_want_0 := o23_want.cell (i := 0) rfl
                  have f23_want_0 := o23_want.free 0
                  have q23_want_1 := o23_want.cell (i := 1) rfl
                  have f23_want_1 := o23_want.free 1
                  have q23_want_2 := o23_want.cell (i := 2) rfl
                  have f23_want_2 := o23_want.free 2
                  have q23_want_3 := o23_want.cell (i := 3) rfl
                  have f23_want_3 := o23_want.free 3
                  have l23_want := o23_want.lt
                  have H23_want := hide o23_want
                  clear o23_want
                  have hy23 : w.heap.size ≤ w23.heap.size := hB23.size
                  clear hk23
                  have cu := CU.out _ hB23
                  have lu : bb2 < w23.heap.size := by omega
                  have G3 := hide (rTag3 hkk (show (0 : Int) ≤ 2 ∧ (2 : Int) < 999983 by omega) (show 0 ≤ n ∧ n < 999983 by omega) (show 0 ≤ u ∧ u < 999983 by have := tmB_true.1 hu; omega))
                  have ISS := hide (fun (W : World) h => issue_ok (w.heap.size + 1 + 1) (w.heap.size + 1) e k o u n m n n' m' many W h hre hu hn0 hnm hm0 hN (by omega))
                  obtain ⟨tg, htg⟩ : ∃ t, t = tagOf k [2, n, u] := ⟨_, rfl⟩
                  rw [← htg] at G3 ISS
                  clear htg hN hkk hre hu
                  have ne1 : ¬ w.heap.size = w21.heap.size := by omega
                  have ne2 : ¬ bb2 = w21.heap.size := by omega
                  have ne3 : ¬ w21.heap.size = w.heap.size := by omega
                  have ne4 : ¬ w21.heap.size = bb2 := by omega
                  go_wp2_with fail
                  go_region_held3 (fun w' => w'.cell? ⟨w.heap.size, 0, none⟩ = some (.int .i64 e) ∧ w'.cell? ⟨w.heap.size, 1, none⟩ = some (.int .i64 k) ∧ w'.cell? ⟨bb2, bo + j, none⟩ = some (.int .i64 u)) (go_keep)
                    (first | (go_at_call 29; refine (G3.out _ _ ?_).mono ?_; (first | (with_reducible refine ObjAt.drew ?_; exact objNew (by simp)) | exact objNew (by simp)); rintro e1 w1 ⟨rfl, rfl⟩))
                  go_wp2_with fail
                  go_wp2_with fail
                  obtain ⟨w24, hW24⟩ : ∃ W : World, W = (((((w23.setCell ⟨w21.heap.size, 0, none⟩ (.int .i64 e)).setCell ⟨w21.heap.size, 1, none⟩ (.int .i64 n)).setCell ⟨w21.heap.size, 2, none⟩ (.int .i64 u)).setCell ⟨w21.heap.size, 3, none⟩ (.int .i64 tg)).alloc (.cells #[.int .i64 2, .int .i64 n, .int .i64 u] 3)).drew := ⟨_, rfl⟩
                  have hB24 : Below w.heap.size w w24 := by rw [hW24]; go_grown
                  have o24_r : ObjAt w24 (w.heap.size) 47 [.int .i64 e, .int .i64 k, .int .i64 o] := by rw [hW24]; exact ObjAt.drew (ObjAt.alloc (ObjAt.other4 (H23_r.out) (by omega)) _)
                  have o24_iss : ObjAt w24 (w.heap.size + 1 + 1) 102 [.pointer (some ⟨w.heap.size + 1, 0, none⟩), .int .i64 many] := by rw [hW24]; exact ObjAt.drew (ObjAt.alloc (ObjAt.other4 (H23_iss.out) (by omega)) _)
                  have o24_blk : ObjAt w24 (w.heap.size + 1) 115 [.int .i64 n, .int .i64 m] := by rw [hW24]; exact ObjAt.drew (ObjAt.alloc (ObjAt.other4 (H23_blk.out) (by omega)) _)
                  have o24_mo : ObjAt w24 (w1.heap.size) 52 [.int .i64 n', .int .i64 m'] := by rw [hW24]; exact ObjAt.drew (ObjAt.alloc (ObjAt.other4 (H23_mo.out) (by omega)) _)
                  have o24_want : ObjAt w24 (w21.heap.size) 56 [.int .i64 e, .int .i64 n, .int .i64 u, .int .i64 tg] := by rw [hW24]; exact ObjAt.drew (ObjAt.alloc (ObjAt.set4 (H23_want.out)) _)
                  rw [← hW24]
                  clear hW24
                  clear q23_r_0 q23_r_1 q23_r_2 H23_r q23_iss_0 q23_iss_1 H23_iss q23_blk_0 q23_blk_1 H23_blk q23_mo_0 f23_mo_0 q23_mo_1 f23_mo_1 H23_mo q23_want_0 f23_want_0 q23_want_1 f23_want_1 q23_want_2 f23_want_2 q23_want_3 f23_want_3 H23_want
                  have q24_r_0 := o24_r.cell (i := 0) rfl
                  have q24_r_1 := o24_r.cell (i := 1) rfl
                  have q24_r_2 := o24_r.cell (i := 2) rfl
                  have l24_r := o24_r.lt
                  have H24_r := hide o24_r
                  clear o24_r
                  have q24_iss_0 := o24_iss.cell (i := 0) rfl
                  have q24_iss_1 := o24_iss.cell (i := 1) rfl
                  have l24_iss := o24_iss.lt
                  have H24_iss := hide o24_iss
                  clear o24_iss
                  have q24_blk_0 := o24_blk.cell (i := 0) rfl
                  have q24_blk_1 := o24_blk.cell (i := 1) rfl
                  have l24_blk := o24_blk.lt
                  have H24_blk := hide o24_blk
                  clear o24_blk
                  have q24_mo_0 := o24_mo.cell (i := 0) rfl
                  have f24_mo_0 := o24_mo.free 0
                  have q24_mo_1 := o24_mo.cell (i := 1) rfl
                  have f24_mo_1 := o24_mo.free 1
                  have l24_mo := o24_mo.lt
                  have H24_mo := hide o24_mo
                  clear o24_mo
                  have q24_want_0 := o24_want.cell (i := 0) rfl
                  have f24_want_0 := o24_want.free 0
                  have q24_want_1 := o24_want.cell (i := 1) rfl
                  have f24_want_1 := o24_want.free 1
                  have q24_want_2 := o24_want.cell (i := 2) rfl
                  have f24_want_2 := o24_want.free 2
                  have q24_want_3 := o24_want.cell (i := 3) rfl
                  have f24_want_3 := o24_want.free 3
                  have l24_want := o24_want.lt
                  have H24_want := hide o24_want
                  clear o24_want
                  have hy24 : w.heap.size ≤ w24.heap.size := hB24.size
                  have cu := CU.out _ hB24
                  have lu : bb2 < w24.heap.size := by omega
                  have hI0 : IssAt w24 (w.heap.size + 1 + 1) (w.heap.size + 1) n m many := ⟨H24_iss.out, H24_blk.out, by omega⟩
                  have HI0 := hide hI0
                  clear hI0
                  go_wp2_with fail
                  have HS25 : Hid (∀ W, Kept [w.heap.size + 1 + 1, w.heap.size + 1] w24 W → W.cell? ⟨w.heap.size, 0, none⟩ = some (.int .i64 e) ∧ W.cell? ⟨w.heap.size, 1, none⟩ = some (.int .i64 k) ∧ W.cell? ⟨w.heap.size, 2, none⟩ = some (.int .i64 o) ∧ W.cell? ⟨bb2, bo + j, none⟩ = some (.int .i64 u)) := by
                    intro W hW
                    refine ⟨(hW.cell (p := ⟨w.heap.size, 0, none⟩) (by simp; omega) (by simp; omega)).trans (by assumption), (hW.cell (p := ⟨w.heap.size, 1, none⟩) (by simp; omega) (by simp; omega)).trans (by assumption), (hW.cell (p := ⟨w.heap.size, 2, none⟩) (by simp; omega) (by simp; omega)).trans (by assumption), (hW.cell (p := ⟨bb2, bo + j, none⟩) (by simp; omega) (by simp; omega)).trans (by assumption)⟩
                  go_region_held3 (fun w' => w'.cell? ⟨w.heap.size, 0, none⟩ = some (.int .i64 e) ∧ w'.cell? ⟨w.heap.size, 1, none⟩ = some (.int .i64 k) ∧ w'.cell? ⟨w.heap.size, 2, none⟩ = some (.int .i64 o) ∧ w'.cell? ⟨bb2, bo + j, none⟩ = some (.int .i64 u)) (first | exact HS25.out _ (by assumption) | (refine HS25.out _ ?_; (first | exact Kept.alloc (by assumption) _ | exact Kept.new4 (by assumption) (Or.inr (by first | omega | (simp; omega))))) | go_keep)
                    (first | (go_at_call 30; refine (ISS.out _ (IssAt.below HI0.out (by go_grown))).mono ?_; rintro e w25 ⟨rfl, hI25, hk25⟩; have hw25 : Kept [w.heap.size + 1 + 1, w.heap.size + 1] w24 w25 := Kept.trans (Kept.of_below (by go_grown) _) hk25; obtain ⟨c25, d25⟩ := kcell hk25; have hs25 := hk25.size; (try simp at hs25); have hn25 : ¬ w24.heap.size ∈ [w.heap.size + 1 + 1, w.heap.size + 1] := (by simp; omega)))
                  ·
                    have hB25 : Below w.heap.size w w25 := by
                      refine Below.trans ?_ (Kept.below hk25 ?_ ?_)
                      · go_grown
                      · first | omega | (simp; done) | (simp; omega)
                      · intro x hx; simp at hx; omega
                    have o25_r : ObjAt w25 (w.heap.size) 47 [.int .i64 e, .int .i64 k, .int .i64 o] := Kept.obj hk25 (ObjAt.drew (H24_r.out)) (by simp; omega)
                    have o25_iss : ObjAt w25 (w.heap.size + 1 + 1) 102 [.pointer (some ⟨w.heap.size + 1, 0, none⟩), .int .i64 (many + 1)] := hI25.1
                    have o25_blk : ObjAt w25 (w.heap.size + 1) 115 [.int .i64 n', .int .i64 m'] := hI25.2.1
                    have o25_mo : ObjAt w25 (w1.heap.size) 52 [.int .i64 n', .int .i64 m'] := Kept.obj hk25 (ObjAt.drew (H24_mo.out)) (by simp; omega)
                    have o25_want : ObjAt w25 (w21.heap.size) 56 [.int .i64 e, .int .i64 n, .int .i64 u, .int .i64 tg] := Kept.obj hk25 (ObjAt.drew (H24_want.out)) (by simp; omega)
                    clear q24_r_0 q24_r_1 q24_r_2 H24_r q24_iss_0 q24_iss_1 H24_iss q24_blk_0 q24_blk_1 H24_blk q24_mo_0 f24_mo_0 q24_mo_1 f24_mo_1 H24_mo q24_want_0 f24_want_0 q24_want_1 f24_want_1 q24_want_2 f24_want_2 q24_want_3 f24_want_3 H24_want
                    have q25_r_0 := o25_r.cell (i := 0) rfl
                    have q25_r_1 := o25_r.cell (i := 1) rfl
                    have q25_r_2 := o25_r.cell (i := 2) rfl
                    have l25_r := o25_r.lt
                    have H25_r := hide o25_r
                    clear o25_r
                    have q25_iss_0 := o25_iss.cell (i := 0) rfl
                    have q25_iss_1 := o25_iss.cell (i := 1) rfl
                    have l25_iss := o25_iss.lt
                    have H25_iss := hide o25_iss
                    clear o25_iss
                    have q25_blk_0 := o25_blk.cell (i := 0) rfl
                    have q25_blk_1 := o25_blk.cell (i := 1) rfl
                    have l25_blk := o25_blk.lt
                    have H25_blk := hide o25_blk
                    clear o25_blk
                    have q25_mo_0 := o25_mo.cell (i := 0) rfl
                    have f25_mo_0 := o25_mo.free 0
                    have q25_mo_1 := o25_mo.cell (i := 1) rfl
                    have f25_mo_1 := o25_mo.free 1
                    have l25_mo := o25_mo.lt
                    have H25_mo := hide o25_mo
                    clear o25_mo
                    have q25_want_0 := o25_want.cell (i := 0) rfl
                    have f25_want_0 := o25_want.free 0
                    have q25_want_1 := o25_want.cell (i := 1) rfl
                    have f25_want_1 := o25_want.free 1
                    have q25_want_2 := o25_want.cell (i := 2) rfl
                    have f25_want_2 := o25_want.free 2
                    have q25_want_3 := o25_want.cell (i := 3) rfl
                    have f25_want_3 := o25_want.free 3
                    have l25_want := o25_want.lt
                    have H25_want := hide o25_want
                    clear o25_want
                    have hy25 : w.heap.size ≤ w25.heap.size := hB25.size
                    clear hk25
                    clear hw25 HS25 c25 d25 hs25
                    go_wp2_with fail
                    refine (error_any 0 0 _ (hE.below (B := w.heap.size) (by go_grown) hE.pos)).mono ?_
                    rintro e w26 ⟨rfl, hb26⟩
                    have hB26 : Below w.heap.size w w26 := by
                      refine Below.trans ?_ (Below.mono hb26 ?_)
                      · go_grown
                      · first | omega | (simp; done) | (simp; omega)
                    have o26_r : ObjAt w26 (w.heap.size) 47 [.int .i64 e, .int .i64 k, .int .i64 o] := ObjAt.below (ObjAt.alloc (H25_r.out) _) hb26
                    have o26_iss : ObjAt w26 (w.heap.size + 1 + 1) 102 [.pointer (some ⟨w.heap.size + 1, 0, none⟩), .int .i64 (many + 1)] := ObjAt.below (ObjAt.alloc (H25_iss.out) _) hb26
                    have o26_blk : ObjAt w26 (w.heap.size + 1) 115 [.int .i64 n', .int .i64 m'] := ObjAt.below (ObjAt.alloc (H25_blk.out) _) hb26
                    have o26_mo : ObjAt w26 (w1.heap.size) 52 [.int .i64 n', .int .i64 m'] := ObjAt.below (ObjAt.alloc (H25_mo.out) _) hb26
                    have o26_want : ObjAt w26 (w21.heap.size) 56 [.int .i64 e, .int .i64 n, .int .i64 u, .int .i64 tg] := ObjAt.below (ObjAt.alloc (H25_want.out) _) hb26
                    have o26_t : ObjAt w26 (w25.heap.size) 56 [.int .i64 e, .int .i64 n, .int .i64 u, .int .i64 tg] := ObjAt.below (objNew (by simp)) hb26
                    clear q25_r_0 q25_r_1 q25_r_2 H25_r q25_iss_0 q25_iss_1 H25_iss q25_blk_0 q25_blk_1 H25_blk q25_mo_0 f25_mo_0 q25_mo_1 f25_mo_1 H25_mo q25_want_0 f25_want_0 q25_want_1 f25_want_1 q25_want_2 f25_want_2 q25_want_3 f25_want_3 H25_want
                    have q26_r_0 := o26_r.cell (i := 0) rfl
                    have q26_r_1 := o26_r.cell (i := 1) rfl
                    have q26_r_2 := o26_r.cell (i := 2) rfl
                    have l26_r := o26_r.lt
                    have H26_r := hide o26_r
                    clear o26_r
                    have q26_iss_0 := o26_iss.cell (i := 0) rfl
                    have q26_iss_1 := o26_iss.cell (i := 1) rfl
                    have l26_iss := o26_iss.lt
                    have H26_iss := hide o26_iss
                    clear o26_iss
                    have q26_blk_0 := o26_blk.cell (i := 0) rfl
                    have q26_blk_1 := o26_blk.cell (i := 1) rfl
                    have l26_blk := o26_blk.lt
                    have H26_blk := hide o26_blk
                    clear o26_blk
                    have q26_mo_0 := o26_mo.cell (i := 0) rfl
                    have f26_mo_0 := o26_mo.free 0
                    have q26_mo_1 := o26_mo.cell (i := 1) rfl
                    have f26_mo_1 := o26_mo.free 1
                    have l26_mo := o26_mo.lt
                    have H26_mo := hide o26_mo
                    clear o26_mo
                    have q26_want_0 := o26_want.cell (i := 0) rfl
                    have f26_want_0 := o26_want.free 0
                    have q26_want_1 := o26_want.cell (i := 1) rfl
                    have f26_want_1 := o26_want.free 1
                    have q26_want_2 := o26_want.cell (i := 2) rfl
                    have f26_want_2 := o26_want.free 2
                    have q26_want_3 := o26_want.cell (i := 3) rfl
                    have f26_want_3 := o26_want.free 3
                    have l26_want := o26_want.lt
                    have H26_want := hide o26_want
                    clear o26_want
                    have q26_t_0 := o26_t.cell (i := 0) rfl
                    have q26_t_1 := o26_t.cell (i := 1) rfl
                    have q26_t_2 := o26_t.cell (i := 2) rfl
                    have q26_t_3 := o26_t.cell (i := 3) rfl
                    have l26_t := o26_t.lt
                    have H26_t := hide o26_t
                    clear o26_t
                    have hy26 : w.heap.size ≤ w26.heap.size := hB26.size
                    clear hb26
                    go_wp2_with fail
                    refine (issueMany _ (w.heap.size + 1) n' m' (many + 1) _ ⟨H26_iss.out, H26_blk.out, by omega⟩).mono ?_
                    rintro e w527 ⟨rfl, rfl⟩
                    go_wp2
                    go_roundw
                    case rel => exact ⟨j + 1, n', m', many + 1, by go_num, by omega, rfl, by omega, by omega, by omega, by omega, by omega, H26_r.out, H26_iss.out, H26_blk.out, H26_mo.out, by go_grown⟩
                    case measure => simp [intOf] <;> omega
                  ·
                    have hB25 : Below w.heap.size w w25 := by
                      refine Below.trans ?_ (Kept.below hk25 ?_ ?_)
                      · go_grown
                      · first | omega | (simp; done) | (simp; omega)
                      · intro x hx; simp at hx; omega
                    have o25_r : ObjAt w25 (w.heap.size) 47 [.int .i64 e, .int .i64 k, .int .i64 o] := Kept.obj hk25 (ObjAt.drew (ObjAt.alloc (H24_r.out) _)) (by simp; omega)
                    have o25_iss : ObjAt w25 (w.heap.size + 1 + 1) 102 [.pointer (some ⟨w.heap.size + 1, 0, none⟩), .int .i64 (many + 1)] := hI25.1
                    have o25_blk : ObjAt w25 (w.heap.size + 1) 115 [.int .i64 n', .int .i64 m'] := hI25.2.1
                    have o25_mo : ObjAt w25 (w1.heap.size) 52 [.int .i64 n', .int .i64 m'] := Kept.obj hk25 (ObjAt.drew (ObjAt.alloc (H24_mo.out) _)) (by simp; omega)
                    have o25_want : ObjAt w25 (w21.heap.size) 56 [.int .i64 e, .int .i64 n, .int .i64 u, .int .i64 tg] := Kept.obj hk25 (ObjAt.drew (ObjAt.alloc (H24_want.out) _)) (by simp; omega)
                    have o25_t : ObjAt w25 (w24.heap.size) 56 [.int .i64 0, .int .i64 0, .int .i64 0, .int .i64 0] := Kept.obj hk25 (ObjAt.drew (objNew (by simp))) (by simp; omega)
                    clear q24_r_0 q24_r_1 q24_r_2 H24_r q24_iss_0 q24_iss_1 H24_iss q24_blk_0 q24_blk_1 H24_blk q24_mo_0 f24_mo_0 q24_mo_1 f24_mo_1 H24_mo q24_want_0 f24_want_0 q24_want_1 f24_want_1 q24_want_2 f24_want_2 q24_want_3 f24_want_3 H24_want
                    have q25_r_0 := o25_r.cell (i := 0) rfl
                    have q25_r_1 := o25_r.cell (i := 1) rfl
                    have q25_r_2 := o25_r.cell (i := 2) rfl
                    have l25_r := o25_r.lt
                    have H25_r := hide o25_r
                    clear o25_r
                    have q25_iss_0 := o25_iss.cell (i := 0) rfl
                    have q25_iss_1 := o25_iss.cell (i := 1) rfl
                    have l25_iss := o25_iss.lt
                    have H25_iss := hide o25_iss
                    clear o25_iss
                    have q25_blk_0 := o25_blk.cell (i := 0) rfl
                    have q25_blk_1 := o25_blk.cell (i := 1) rfl
                    have l25_blk := o25_blk.lt
                    have H25_blk := hide o25_blk
                    clear o25_blk
                    have q25_mo_0 := o25_mo.cell (i := 0) rfl
                    have f25_mo_0 := o25_mo.free 0
                    have q25_mo_1 := o25_mo.cell (i := 1) rfl
                    have f25_mo_1 := o25_mo.free 1
                    have l25_mo := o25_mo.lt
                    have H25_mo := hide o25_mo
                    clear o25_mo
                    have q25_want_0 := o25_want.cell (i := 0) rfl
                    have f25_want_0 := o25_want.free 0
                    have q25_want_1 := o25_want.cell (i := 1) rfl
                    have f25_want_1 := o25_want.free 1
                    have q25_want_2 := o25_want.cell (i := 2) rfl
                    have f25_want_2 := o25_want.free 2
                    have q25_want_3 := o25_want.cell (i := 3) rfl
                    have f25_want_3 := o25_want.free 3
                    have l25_want := o25_want.lt
                    have H25_want := hide o25_want
                    clear o25_want
                    have q25_t_0 := o25_t.cell (i := 0) rfl
                    have q25_t_1 := o25_t.cell (i := 1) rfl
                    have q25_t_2 := o25_t.cell (i := 2) rfl
                    have q25_t_3 := o25_t.cell (i := 3) rfl
                    have l25_t := o25_t.lt
                    have H25_t := hide o25_t
                    clear o25_t
                    have hy25 : w.heap.size ≤ w25.heap.size := hB25.size
                    clear hk25
                    clear hw25 HS25 c25 d25 hs25
                    go_wp2_with fail
                    refine (error_any 0 0 _ (hE.below (B := w.heap.size) (by go_grown) hE.pos)).mono ?_
                    rintro e w26 ⟨rfl, hb26⟩
                    have hB26 : Below w.heap.size w w26 := by
                      refine Below.trans ?_ (Below.mono hb26 ?_)
                      · go_grown
                      · first | omega | (simp; done) | (simp; omega)
                    have o26_r : ObjAt w26 (w.heap.size) 47 [.int .i64 e, .int .i64 k, .int .i64 o] := ObjAt.below (ObjAt.other4 (H25_r.out) (by omega)) hb26
                    have o26_iss : ObjAt w26 (w.heap.size + 1 + 1) 102 [.pointer (some ⟨w.heap.size + 1, 0, none⟩), .int .i64 (many + 1)] := ObjAt.below (ObjAt.other4 (H25_iss.out) (by omega)) hb26
                    have o26_blk : ObjAt w26 (w.heap.size + 1) 115 [.int .i64 n', .int .i64 m'] := ObjAt.below (ObjAt.other4 (H25_blk.out) (by omega)) hb26
                    have o26_mo : ObjAt w26 (w1.heap.size) 52 [.int .i64 n', .int .i64 m'] := ObjAt.below (ObjAt.other4 (H25_mo.out) (by omega)) hb26
                    have o26_want : ObjAt w26 (w21.heap.size) 56 [.int .i64 e, .int .i64 n, .int .i64 u, .int .i64 tg] := ObjAt.below (ObjAt.other4 (H25_want.out) (by omega)) hb26
                    have o26_t : ObjAt w26 (w24.heap.size) 56 [.int .i64 e, .int .i64 n, .int .i64 u, .int .i64 tg] := ObjAt.below (ObjAt.set4 (H25_t.out)) hb26
                    clear q25_r_0 q25_r_1 q25_r_2 H25_r q25_iss_0 q25_iss_1 H25_iss q25_blk_0 q25_blk_1 H25_blk q25_mo_0 f25_mo_0 q25_mo_1 f25_mo_1 H25_mo q25_want_0 f25_want_0 q25_want_1 f25_want_1 q25_want_2 f25_want_2 q25_want_3 f25_want_3 H25_want q25_t_0 q25_t_1 q25_t_2 q25_t_3 H25_t
                    have q26_r_0 := o26_r.cell (i := 0) rfl
                    have q26_r_1 := o26_r.cell (i := 1) rfl
                    have q26_r_2 := o26_r.cell (i := 2) rfl
                    have l26_r := o26_r.lt
                    have H26_r := hide o26_r
                    clear o26_r
                    have q26_iss_0 := o26_iss.cell (i := 0) rfl
                    have q26_iss_1 := o26_iss.cell (i := 1) rfl
                    have l26_iss := o26_iss.lt
                    have H26_iss := hide o26_iss
                    clear o26_iss
                    have q26_blk_0 := o26_blk.cell (i := 0) rfl
                    have q26_blk_1 := o26_blk.cell (i := 1) rfl
                    have l26_blk := o26_blk.lt
                    have H26_blk := hide o26_blk
                    clear o26_blk
                    have q26_mo_0 := o26_mo.cell (i := 0) rfl
                    have f26_mo_0 := o26_mo.free 0
                    have q26_mo_1 := o26_mo.cell (i := 1) rfl
                    have f26_mo_1 := o26_mo.free 1
                    have l26_mo := o26_mo.lt
                    have H26_mo := hide o26_mo
                    clear o26_mo
                    have q26_want_0 := o26_want.cell (i := 0) rfl
                    have f26_want_0 := o26_want.free 0
                    have q26_want_1 := o26_want.cell (i := 1) rfl
                    have f26_want_1 := o26_want.free 1
                    have q26_want_2 := o26_want.cell (i := 2) rfl
                    have f26_want_2 := o26_want.free 2
                    have q26_want_3 := o26_want.cell (i := 3) rfl
                    have f26_want_3 := o26_want.free 3
                    have l26_want := o26_want.lt
                    have H26_want := hide o26_want
                    clear o26_want
                    have q26_t_0 := o26_t.cell (i := 0) rfl
                    have q26_t_1 := o26_t.cell (i := 1) rfl
                    have q26_t_2 := o26_t.cell (i := 2) rfl
                    have q26_t_3 := o26_t.cell (i := 3) rfl
                    have l26_t := o26_t.lt
                    have H26_t := hide o26_t
                    clear o26_t
                    have hy26 : w.heap.size ≤ w26.heap.size := hB26.size
                    clear hb26
                    go_wp2_with fail
                    refine (issueMany _ (w.heap.size + 1) n' m' (many + 1) _ ⟨H26_iss.out, H26_blk.out, by omega⟩).mono ?_
                    rintro e w527 ⟨rfl, rfl⟩
                    go_wp2
                    go_roundw
                    case rel => exact ⟨j + 1, n', m', many + 1, by go_num, by omega, rfl, by omega, by omega, by omega, by omega, by omega, H26_r.out, H26_iss.out, H26_blk.out, H26_mo.out, by go_grown⟩
                    case measure => simp [intOf] <;> omega
            ·
              have t0 : (rc == 0) = false := beq_eq_false_iff_ne.2 h0
              have RT := hide (fun W => rTime u W)
              have IB := hide (fun W => issue_bad (w.heap.size + 1 + 1) e k o u rc W (by unfold tkmE; rw [if_pos (by rw [HRC.out]; exact h0), HRC.out]) h0)
              have t00 : (rc != 0) = true := bne_iff_ne.2 h0
              clear h0
              go_wp2_with fail
              refine (RT.out _).mono ?_
              rintro e w522 ⟨rfl, rfl⟩
              go_wp2_with fail
              have HS23 : Hid (∀ W, Below w21.heap.size w21 W → W.cell? ⟨w.heap.size, 0, none⟩ = some (.int .i64 e) ∧ W.cell? ⟨w.heap.size, 1, none⟩ = some (.int .i64 k) ∧ W.cell? ⟨w.heap.size, 2, none⟩ = some (.int .i64 o) ∧ W.cell? ⟨bb2, bo + j, none⟩ = some (.int .i64 u)) := by
                intro W hW
                refine ⟨(hW.cell (p := ⟨w.heap.size, 0, none⟩) (by simp; omega)).trans (by assumption), (hW.cell (p := ⟨w.heap.size, 1, none⟩) (by simp; omega)).trans (by assumption), (hW.cell (p := ⟨w.heap.size, 2, none⟩) (by simp; omega)).trans (by assumption), (hW.cell (p := ⟨bb2, bo + j, none⟩) (by simp; omega)).trans (by assumption)⟩
              go_region_held3 (fun w' => w'.cell? ⟨w.heap.size, 0, none⟩ = some (.int .i64 e) ∧ w'.cell? ⟨w.heap.size, 1, none⟩ = some (.int .i64 k) ∧ w'.cell? ⟨w.heap.size, 2, none⟩ = some (.int .i64 o) ∧ w'.cell? ⟨bb2, bo + j, none⟩ = some (.int .i64 u)) (first | exact HS23.out _ (by assumption) | (refine HS23.out _ ?_; go_grown) | go_keep)
                (first | (go_at_call 30; refine (IB.out _).mono ?_; rintro e w23 ⟨rfl, hb23⟩; have hw23 : Below w21.heap.size w21 w23 := Below.trans (by go_grown) (Below.mono hb23 (by first | omega | (simp; done) | (simp; omega))); obtain ⟨c23, d23⟩ := bcell hb23; have hs23 := hb23.size; (try simp at hs23)))
              ·
                have hB23 : Below w.heap.size w w23 := by
                  refine Below.trans ?_ (Below.mono hb23 ?_)
                  · go_grown
                  · first | omega | (simp; done) | (simp; omega)
                have o23_r : ObjAt w23 (w.heap.size) 47 [.int .i64 e, .int .i64 k, .int .i64 o] := ObjAt.below (ObjAt.drew (ObjAt.alloc (H21_r.out) _)) hb23
                have o23_iss : ObjAt w23 (w.heap.size + 1 + 1) 102 [.pointer (some ⟨w.heap.size + 1, 0, none⟩), .int .i64 many] := ObjAt.below (ObjAt.drew (ObjAt.alloc (H21_iss.out) _)) hb23
                have o23_blk : ObjAt w23 (w.heap.size + 1) 115 [.int .i64 n, .int .i64 m] := ObjAt.below (ObjAt.drew (ObjAt.alloc (H21_blk.out) _)) hb23
                have o23_mo : ObjAt w23 (w1.heap.size) 52 [.int .i64 n, .int .i64 m] := ObjAt.below (ObjAt.drew (ObjAt.alloc (H21_mo.out) _)) hb23
                have o23_want : ObjAt w23 (w21.heap.size) 56 [.int .i64 0, .int .i64 0, .int .i64 0, .int .i64 0] := ObjAt.below (ObjAt.drew (objNew (by simp))) hb23
                clear q21_r_0 q21_r_1 q21_r_2 H21_r q21_iss_0 q21_iss_1 H21_iss q21_blk_0 q21_blk_1 H21_blk q21_mo_0 f21_mo_0 q21_mo_1 f21_mo_1 H21_mo
                have q23_r_0 := o23_r.cell (i := 0) rfl
                have q23_r_1 := o23_r.cell (i := 1) rfl
                have q23_r_2 := o23_r.cell (i := 2) rfl
                have l23_r := o23_r.lt
                have H23_r := hide o23_r
                clear o23_r
                have q23_iss_0 := o23_iss.cell (i := 0) rfl
                have q23_iss_1 := o23_iss.cell (i := 1) rfl
                have l23_iss := o23_iss.lt
                have H23_iss := hide o23_iss
                clear o23_iss
                have q23_blk_0 := o23_blk.cell (i := 0) rfl
                have q23_blk_1 := o23_blk.cell (i := 1) rfl
                have l23_blk := o23_blk.lt
                have H23_blk := hide o23_blk
                clear o23_blk
                have q23_mo_0 := o23_mo.cell (i := 0) rfl
                have f23_mo_0 := o23_mo.free 0
                have q23_mo_1 := o23_mo.cell (i := 1) rfl
                have f23_mo_1 := o23_mo.free 1
                have l23_mo := o23_mo.lt
                have H23_mo := hide o23_mo
                clear o23_mo
                have q23_want_0 := o23_want.cell (i := 0) rfl
                have f23_want_0 := o23_want.free 0
                have q23_want_1 := o23_want.cell (i := 1) rfl
                have f23_want_1 := o23_want.free 1
                have q23_want_2 := o23_want.cell (i := 2) rfl
                have f23_want_2 := o23_want.free 2
                have q23_want_3 := o23_want.cell (i := 3) rfl
                have f23_want_3 := o23_want.free 3
                have l23_want := o23_want.lt
                have H23_want := hide o23_want
                clear o23_want
                have hy23 : w.heap.size ≤ w23.heap.size := hB23.size
                clear hb23
                clear hw23 HS23 c23 d23 hs23
                go_wp2_with fail
                refine (error_any rc rc _ (hE.below (B := w.heap.size) (by go_grown) hE.pos)).mono ?_
                rintro e w24 ⟨rfl, hb24⟩
                have hB24 : Below w.heap.size w w24 := by
                  refine Below.trans ?_ (Below.mono hb24 ?_)
                  · go_grown
                  · first | omega | (simp; done) | (simp; omega)
                have o24_r : ObjAt w24 (w.heap.size) 47 [.int .i64 e, .int .i64 k, .int .i64 o] := ObjAt.below (ObjAt.alloc (H23_r.out) _) hb24
                have o24_iss : ObjAt w24 (w.heap.size + 1 + 1) 102 [.pointer (some ⟨w.heap.size + 1, 0, none⟩), .int .i64 many] := ObjAt.below (ObjAt.alloc (H23_iss.out) _) hb24
                have o24_blk : ObjAt w24 (w.heap.size + 1) 115 [.int .i64 n, .int .i64 m] := ObjAt.below (ObjAt.alloc (H23_blk.out) _) hb24
                have o24_mo : ObjAt w24 (w1.heap.size) 52 [.int .i64 n, .int .i64 m] := ObjAt.below (ObjAt.alloc (H23_mo.out) _) hb24
                have o24_want : ObjAt w24 (w21.heap.size) 56 [.int .i64 0, .int .i64 0, .int .i64 0, .int .i64 0] := ObjAt.below (ObjAt.alloc (H23_want.out) _) hb24
                have o24_t : ObjAt w24 (w23.heap.size) 56 [.int .i64 0, .int .i64 0, .int .i64 0, .int .i64 0] := ObjAt.below (objNew (by simp)) hb24
                clear q23_r_0 q23_r_1 q23_r_2 H23_r q23_iss_0 q23_iss_1 H23_iss q23_blk_0 q23_blk_1 H23_blk q23_mo_0 f23_mo_0 q23_mo_1 f23_mo_1 H23_mo q23_want_0 f23_want_0 q23_want_1 f23_want_1 q23_want_2 f23_want_2 q23_want_3 f23_want_3 H23_want
                have q24_r_0 := o24_r.cell (i := 0) rfl
                have q24_r_1 := o24_r.cell (i := 1) rfl
                have q24_r_2 := o24_r.cell (i := 2) rfl
                have l24_r := o24_r.lt
                have H24_r := hide o24_r
                clear o24_r
                have q24_iss_0 := o24_iss.cell (i := 0) rfl
                have q24_iss_1 := o24_iss.cell (i := 1) rfl
                have l24_iss := o24_iss.lt
                have H24_iss := hide o24_iss
                clear o24_iss
                have q24_blk_0 := o24_blk.cell (i := 0) rfl
                have q24_blk_1 := o24_blk.cell (i := 1) rfl
                have l24_blk := o24_blk.lt
                have H24_blk := hide o24_blk
                clear o24_blk
                have q24_mo_0 := o24_mo.cell (i := 0) rfl
                have f24_mo_0 := o24_mo.free 0
                have q24_mo_1 := o24_mo.cell (i := 1) rfl
                have f24_mo_1 := o24_mo.free 1
                have l24_mo := o24_mo.lt
                have H24_mo := hide o24_mo
                clear o24_mo
                have q24_want_0 := o24_want.cell (i := 0) rfl
                have f24_want_0 := o24_want.free 0
                have q24_want_1 := o24_want.cell (i := 1) rfl
                have f24_want_1 := o24_want.free 1
                have q24_want_2 := o24_want.cell (i := 2) rfl
                have f24_want_2 := o24_want.free 2
                have q24_want_3 := o24_want.cell (i := 3) rfl
                have f24_want_3 := o24_want.free 3
                have l24_want := o24_want.lt
                have H24_want := hide o24_want
                clear o24_want
                have q24_t_0 := o24_t.cell (i := 0) rfl
                have q24_t_1 := o24_t.cell (i := 1) rfl
                have q24_t_2 := o24_t.cell (i := 2) rfl
                have q24_t_3 := o24_t.cell (i := 3) rfl
                have l24_t := o24_t.lt
                have H24_t := hide o24_t
                clear o24_t
                have hy24 : w.heap.size ≤ w24.heap.size := hB24.size
                clear hb24
                go_wp2_with fail
                refine (issueMany _ (w.heap.size + 1) n m many _ ⟨H24_iss.out, H24_blk.out, by omega⟩).mono ?_
                rintro e w525 ⟨rfl, rfl⟩
                go_wp2
                go_roundw
                case rel => exact ⟨j + 1, n, m, many, by go_num, by omega, rfl, by omega, by omega, by omega, by omega, by omega, H24_r.out, H24_iss.out, H24_blk.out, H24_mo.out, by go_grown⟩
                case measure => simp [intOf] <;> omega
              ·
                have hB23 : Below w.heap.size w w23 := by
                  refine Below.trans ?_ (Below.mono hb23 ?_)
                  · go_grown
                  · first | omega | (simp; done) | (simp; omega)
                have o23_r : ObjAt w23 (w.heap.size) 47 [.int .i64 e, .int .i64 k, .int .i64 o] := ObjAt.below (ObjAt.drew (ObjAt.alloc (ObjAt.alloc (H21_r.out) _) _)) hb23
                have o23_iss : ObjAt w23 (w.heap.size + 1 + 1) 102 [.pointer (some ⟨w.heap.size + 1, 0, none⟩), .int .i64 many] := ObjAt.below (ObjAt.drew (ObjAt.alloc (ObjAt.alloc (H21_iss.out) _) _)) hb23
                have o23_blk : ObjAt w23 (w.heap.size + 1) 115 [.int .i64 n, .int .i64 m] := ObjAt.below (ObjAt.drew (ObjAt.alloc (ObjAt.alloc (H21_blk.out) _) _)) hb23
                have o23_mo : ObjAt w23 (w1.heap.size) 52 [.int .i64 n, .int .i64 m] := ObjAt.below (ObjAt.drew (ObjAt.alloc (ObjAt.alloc (H21_mo.out) _) _)) hb23
                have o23_want : ObjAt w23 (w21.heap.size) 56 [.int .i64 0, .int .i64 0, .int .i64 0, .int .i64 0] := ObjAt.below (ObjAt.drew (ObjAt.alloc (objNew (by simp)) _)) hb23
                have o23_t : ObjAt w23 (w21.heap.size + 1) 56 [.int .i64 0, .int .i64 0, .int .i64 0, .int .i64 0] := ObjAt.below (ObjAt.drew (objNew (by simp))) hb23
                clear q21_r_0 q21_r_1 q21_r_2 H21_r q21_iss_0 q21_iss_1 H21_iss q21_blk_0 q21_blk_1 H21_blk q21_mo_0 f21_mo_0 q21_mo_1 f21_mo_1 H21_mo
                have q23_r_0 := o23_r.cell (i := 0) rfl
                have q23_r_1 := o23_r.cell (i := 1) rfl
                have q23_r_2 := o23_r.cell (i := 2) rfl
                have l23_r := o23_r.lt
                have H23_r := hide o23_r
                clear o23_r
                have q23_iss_0 := o23_iss.cell (i := 0) rfl
                have q23_iss_1 := o23_iss.cell (i := 1) rfl
                have l23_iss := o23_iss.lt
                have H23_iss := hide o23_iss
                clear o23_iss
                have q23_blk_0 := o23_blk.cell (i := 0) rfl
                have q23_blk_1 := o23_blk.cell (i := 1) rfl
                have l23_blk := o23_blk.lt
                have H23_blk := hide o23_blk
                clear o23_blk
                have q23_mo_0 := o23_mo.cell (i := 0) rfl
                have f23_mo_0 := o23_mo.free 0
                have q23_mo_1 := o23_mo.cell (i := 1) rfl
                have f23_mo_1 := o23_mo.free 1
                have l23_mo := o23_mo.lt
                have H23_mo := hide o23_mo
                clear o23_mo
                have q23_want_0 := o23_want.cell (i := 0) rfl
                have f23_want_0 := o23_want.free 0
                have q23_want_1 := o23_want.cell (i := 1) rfl
                have f23_want_1 := o23_want.free 1
                have q23_want_2 := o23_want.cell (i := 2) rfl
                have f23_want_2 := o23_want.free 2
                have q23_want_3 := o23_want.cell (i := 3) rfl
                have f23_want_3 := o23_want.free 3
                have l23_want := o23_want.lt
                have H23_want := hide o23_want
                clear o23_want
                have q23_t_0 := o23_t.cell (i := 0) rfl
                have q23_t_1 := o23_t.cell (i := 1) rfl
                have q23_t_2 := o23_t.cell (i := 2) rfl
                have q23_t_3 := o23_t.cell (i := 3) rfl
                have l23_t := o23_t.lt
                have H23_t := hide o23_t
                clear o23_t
                have hy23 : w.heap.size ≤ w23.heap.size := hB23.size
                clear hb23
                clear hw23 HS23 c23 d23 hs23
                go_wp2_with fail
                refine (error_any rc rc _ (hE.below (B := w.heap.size) (by go_grown) hE.pos)).mono ?_
                rintro e w24 ⟨rfl, hb24⟩
                have hB24 : Below w.heap.size w w24 := by
                  refine Below.trans ?_ (Below.mono hb24 ?_)
                  · go_grown
                  · first | omega | (simp; done) | (simp; omega)
                have o24_r : ObjAt w24 (w.heap.size) 47 [.int .i64 e, .int .i64 k, .int .i64 o] := ObjAt.below (ObjAt.other4 (H23_r.out) (by omega)) hb24
                have o24_iss : ObjAt w24 (w.heap.size + 1 + 1) 102 [.pointer (some ⟨w.heap.size + 1, 0, none⟩), .int .i64 many] := ObjAt.below (ObjAt.other4 (H23_iss.out) (by omega)) hb24
                have o24_blk : ObjAt w24 (w.heap.size + 1) 115 [.int .i64 n, .int .i64 m] := ObjAt.below (ObjAt.other4 (H23_blk.out) (by omega)) hb24
                have o24_mo : ObjAt w24 (w1.heap.size) 52 [.int .i64 n, .int .i64 m] := ObjAt.below (ObjAt.other4 (H23_mo.out) (by omega)) hb24
                have o24_want : ObjAt w24 (w21.heap.size) 56 [.int .i64 0, .int .i64 0, .int .i64 0, .int .i64 0] := ObjAt.below (ObjAt.other4 (H23_want.out) (by omega)) hb24
                have o24_t : ObjAt w24 (w21.heap.size + 1) 56 [.int .i64 0, .int .i64 0, .int .i64 0, .int .i64 0] := ObjAt.below (ObjAt.set4 (H23_t.out)) hb24
                clear q23_r_0 q23_r_1 q23_r_2 H23_r q23_iss_0 q23_iss_1 H23_iss q23_blk_0 q23_blk_1 H23_blk q23_mo_0 f23_mo_0 q23_mo_1 f23_mo_1 H23_mo q23_want_0 f23_want_0 q23_want_1 f23_want_1 q23_want_2 f23_want_2 q23_want_3 f23_want_3 H23_want q23_t_0 q23_t_1 q23_t_2 q23_t_3 H23_t
                have q24_r_0 := o24_r.cell (i := 0) rfl
                have q24_r_1 := o24_r.cell (i := 1) rfl
                have q24_r_2 := o24_r.cell (i := 2) rfl
                have l24_r := o24_r.lt
                have H24_r := hide o24_r
                clear o24_r
                have q24_iss_0 := o24_iss.cell (i := 0) rfl
                have q24_iss_1 := o24_iss.cell (i := 1) rfl
                have l24_iss := o24_iss.lt
                have H24_iss := hide o24_iss
                clear o24_iss
                have q24_blk_0 := o24_blk.cell (i := 0) rfl
                have q24_blk_1 := o24_blk.cell (i := 1) rfl
                have l24_blk := o24_blk.lt
                have H24_blk := hide o24_blk
                clear o24_blk
                have q24_mo_0 := o24_mo.cell (i := 0) rfl
                have f24_mo_0 := o24_mo.free 0
                have q24_mo_1 := o24_mo.cell (i := 1) rfl
                have f24_mo_1 := o24_mo.free 1
                have l24_mo := o24_mo.lt
                have H24_mo := hide o24_mo
                clear o24_mo
                have q24_want_0 := o24_want.cell (i := 0) rfl
                have f24_want_0 := o24_want.free 0
                have q24_want_1 := o24_want.cell (i := 1) rfl
                have f24_want_1 := o24_want.free 1
                have q24_want_2 := o24_want.cell (i := 2) rfl
                have f24_want_2 := o24_want.free 2
                have q24_want_3 := o24_want.cell (i := 3) rfl
                have f24_want_3 := o24_want.free 3
                have l24_want := o24_want.lt
                have H24_want := hide o24_want
                clear o24_want
                have q24_t_0 := o24_t.cell (i := 0) rfl
                have q24_t_1 := o24_t.cell (i := 1) rfl
                have q24_t_2 := o24_t.cell (i := 2) rfl
                have q24_t_3 := o24_t.cell (i := 3) rfl
                have l24_t := o24_t.lt
                have H24_t := hide o24_t
                clear o24_t
                have hy24 : w.heap.size ≤ w24.heap.size := hB24.size
                clear hb24
                go_wp2_with fail
                refine (issueMany _ (w.heap.size + 1) n m many _ ⟨H24_iss.out, H24_blk.out, by omega⟩).mono ?_
                rintro e w525 ⟨rfl, rfl⟩
                go_wp2
                go_roundw
                case rel => exact ⟨j + 1, n, m, many, by go_num, by omega, rfl, by omega, by omega, by omega, by omega, by omega, H24_r.out, H24_iss.out, H24_blk.out, H24_mo.out, by go_grown⟩
                case measure => simp [intOf] <;> omega
        · have h3' : 150 ≤ j := by omega
          go_wp2
          go_ret
          exact ⟨rfl, by go_grown⟩
      · have h2' : len2 ≤ j := by omega
        go_wp2
        go_ret
        exact ⟨rfl, by go_grown⟩
    · have h1' : len ≤ j := by omega
      go_wp2
      go_ret
      exact ⟨rfl, by go_grown⟩
end Go.Proofs.YtelegodagepeeaaDoor
