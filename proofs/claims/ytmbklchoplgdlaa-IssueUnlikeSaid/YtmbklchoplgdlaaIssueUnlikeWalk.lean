/- The walk of IssueUnlike. -/
import Derived.Test.YtmbklchoplgdlaaIssueCrash
import Derived.Test.YtmbklchoplgdlaaBlkCases
import Derived.Test.YtmbklchoplgdlaaRingNew
import Derived.Test.YtmbklchoplgdlaaTickMade
import Derived.Test.YtmbklchoplgdlaaOpen
import Derived.Test.YtmbklchoplgdlaaObj4
import Derived.Deep.RegionHeld3
namespace Go.Proofs.Ytmbklchoplgdlaa
open Go.RowKit

set_option maxRecDepth 100000 in
set_option maxHeartbeats 8000000 in
theorem walkIssueUnlike (w : World) (seed : Int) (_w0 : (Lit.int .i64 seed).wf = true) (a : Option Addr) (len cap : Nat) (zs : List Int) (_h1 : len ≤ cap) (_h2 : cap ≤ maxLen) (hr0 : IntRow w a len zs) (a2 : Option Addr) (len2 cap2 : Nat) (us : List Int) (_h3 : len2 ≤ cap2) (_h4 : cap2 ≤ maxLen) (hr20 : IntRow w a2 len2 us) :
    Calls Try.prog 4 #[.int .i64 seed, .slice a len cap, .slice a2 len2 cap2] w fun r w' => r = .returned (.bool true) ∧ Below w.heap.size w w' := by
  clear _w0
  have HR := hide hr0.split
  have HR2 := hide hr20.split
  unfold maxLen at _h2 _h4
  clear hr0 hr20
  cases hs : inB seed
  · have NW := hide (fun W => ringNew_bad hs W)
    have hc := inB_false.1 hs
    clear hs
    rcases hc with hc | hc
    all_goals
      go_enter Try.func4, Try.ntmps4
      go_wp2_with fail
      refine (NW.out _).mono ?_
      rintro e w1 ⟨rfl, hb1⟩
      have hB1 : Below w.heap.size w w1 := by
        refine Below.trans ?_ (Below.mono hb1 ?_)
        · go_grown
        · first | omega | (simp; done) | (simp; omega)
      have hy1 : w.heap.size ≤ w1.heap.size := hB1.size
      clear hb1
      go_wp2
      go_ret
      first | exact ⟨rfl, hB1.alloc hB1.size _⟩ | exact ⟨retB (a := decide (seed < 0) || decide (999982 < seed)) (by simp; omega), hB1.alloc hB1.size _⟩
  · have hk := tagOf_in seed [0]
    have hre := ringNew_key hs
    have RN := hide (fun W => ringNew_ok hs W)
    obtain ⟨k0, hk0⟩ : ∃ k0, k0 = tagOf seed [0] := ⟨_, rfl⟩
    rw [← hk0] at hk hre RN
    have I0 := hide (fun b bb (W : World) h => issue_ok b bb 0 k0 0 10 0 0 0 1 8 0 W h hre (by decide) (by omega) (by omega) (by omega) (by decide) (by omega))
    have I8 := hide (fun b bb (W : World) h => issue_ok b bb 0 k0 0 10 8 8 8 9 16 1 W h hre (by decide) (by omega) (by omega) (by omega) (by decide) (by omega))
    obtain ⟨g0, hg0⟩ : ∃ g, g = tagOf k0 [2, 0, 10] := ⟨_, rfl⟩
    obtain ⟨g8, hg8⟩ : ∃ g, g = tagOf k0 [2, 8, 10] := ⟨_, rfl⟩
    rw [← hg0] at I0
    rw [← hg8] at I8
    have Hre := hide hre
    clear hk hre hk0 hs hg0 hg8
    go_enter Try.func4, Try.ntmps4
    go_wp2_with fail
    refine (RN.out _).mono ?_
    rintro e w1 ⟨rfl, hb1⟩
    have hB1 : Below w.heap.size w w1 := by
      refine Below.trans ?_ (Below.mono hb1 ?_)
      · go_grown
      · first | omega | (simp; done) | (simp; omega)
    have hy1 : w.heap.size ≤ w1.heap.size := hB1.size
    clear hb1
    go_wp2_with fail
    refine (issueNew _).mono ?_
    rintro e w2 ⟨rfl, hI2, hb2⟩
    have hI2 : IssAt w2 (w1.heap.size + 1 + 1) (w1.heap.size + 1) 0 0 0 := by simpa using hI2
    have hB2 : Below w.heap.size w w2 := by
      refine Below.trans ?_ (Below.mono hb2 ?_)
      · go_grown
      · first | omega | (simp; done) | (simp; omega)
    have o2_r : ObjAt w2 (w1.heap.size) 40 [.int .i64 0, .int .i64 k0, .int .i64 0] := ObjAt.below (objNew (by simp)) hb2
    have q2_r_0 := o2_r.cell (i := 0) rfl
    have q2_r_1 := o2_r.cell (i := 1) rfl
    have q2_r_2 := o2_r.cell (i := 2) rfl
    have l2_r := o2_r.lt
    have H2_r := hide o2_r
    clear o2_r
    have hy2 : w.heap.size ≤ w2.heap.size := hB2.size
    clear hb2
    have l2_iss1 := (hI2.1).lt
    have H2_iss1 := hide hI2.1
    have l2_blk1 := (hI2.2.1).lt
    have H2_blk1 := hide hI2.2.1
    clear hI2
    go_wp2_with fail
    refine (I0.out _ _ _ ⟨H2_iss1.out, H2_blk1.out, by omega⟩).mono ?_
    rintro e w3 ⟨rfl, hI3, hk3⟩
    have hB3 : Below w.heap.size w w3 := by
      refine Below.trans ?_ (Kept.below hk3 ?_ ?_)
      · go_grown
      · first | omega | (simp; done) | (simp; omega)
      · intro x hx; simp at hx; omega
    have o3_r : ObjAt w3 (w1.heap.size) 40 [.int .i64 0, .int .i64 k0, .int .i64 0] := Kept.obj hk3 (H2_r.out) (by simp; omega)
    have o3_iss1 : ObjAt w3 (w1.heap.size + 1 + 1) 90 [.pointer (some ⟨w1.heap.size + 1, 0, none⟩), .int .i64 1] := hI3.1
    have o3_blk1 : ObjAt w3 (w1.heap.size + 1) 111 [.int .i64 1, .int .i64 8] := hI3.2.1
    clear q2_r_0 q2_r_1 q2_r_2 H2_r H2_iss1 H2_blk1
    have q3_r_0 := o3_r.cell (i := 0) rfl
    have q3_r_1 := o3_r.cell (i := 1) rfl
    have q3_r_2 := o3_r.cell (i := 2) rfl
    have l3_r := o3_r.lt
    have H3_r := hide o3_r
    clear o3_r
    have q3_iss1_0 := o3_iss1.cell (i := 0) rfl
    have q3_iss1_1 := o3_iss1.cell (i := 1) rfl
    have l3_iss1 := o3_iss1.lt
    have H3_iss1 := hide o3_iss1
    clear o3_iss1
    have q3_blk1_0 := o3_blk1.cell (i := 0) rfl
    have q3_blk1_1 := o3_blk1.cell (i := 1) rfl
    have l3_blk1 := o3_blk1.lt
    have H3_blk1 := hide o3_blk1
    clear o3_blk1
    have hy3 : w.heap.size ≤ w3.heap.size := hB3.size
    clear hk3
    go_wp2_with fail
    refine (issueCrash _ _ 1 8 1 _ ⟨ObjAt.alloc (H3_iss1.out) _, ObjAt.alloc (H3_blk1.out) _, by omega⟩).mono ?_
    rintro e w4 ⟨rfl, hI4, hk4⟩
    have hB4 : Below w.heap.size w w4 := by
      refine Below.trans ?_ (Kept.below hk4 ?_ ?_)
      · go_grown
      · first | omega | (simp; done) | (simp; omega)
      · intro x hx; simp at hx; omega
    have o4_r : ObjAt w4 (w1.heap.size) 40 [.int .i64 0, .int .i64 k0, .int .i64 0] := Kept.obj hk4 (ObjAt.alloc (H3_r.out) _) (by simp; omega)
    have o4_iss1 : ObjAt w4 (w1.heap.size + 1 + 1) 90 [.pointer (some ⟨w1.heap.size + 1, 0, none⟩), .int .i64 1] := hI4.1
    have o4_blk1 : ObjAt w4 (w1.heap.size + 1) 111 [.int .i64 8, .int .i64 8] := hI4.2.1
    have o4_a : ObjAt w4 (w3.heap.size) 46 [.int .i64 0, .int .i64 0, .int .i64 10, .int .i64 g0] := Kept.obj hk4 (objNew (by simp)) (by simp; omega)
    clear q3_r_0 q3_r_1 q3_r_2 H3_r q3_iss1_0 q3_iss1_1 H3_iss1 q3_blk1_0 q3_blk1_1 H3_blk1
    have q4_r_0 := o4_r.cell (i := 0) rfl
    have q4_r_1 := o4_r.cell (i := 1) rfl
    have q4_r_2 := o4_r.cell (i := 2) rfl
    have l4_r := o4_r.lt
    have H4_r := hide o4_r
    clear o4_r
    have q4_iss1_0 := o4_iss1.cell (i := 0) rfl
    have q4_iss1_1 := o4_iss1.cell (i := 1) rfl
    have l4_iss1 := o4_iss1.lt
    have H4_iss1 := hide o4_iss1
    clear o4_iss1
    have q4_blk1_0 := o4_blk1.cell (i := 0) rfl
    have q4_blk1_1 := o4_blk1.cell (i := 1) rfl
    have l4_blk1 := o4_blk1.lt
    have H4_blk1 := hide o4_blk1
    clear o4_blk1
    have q4_a_0 := o4_a.cell (i := 0) rfl
    have q4_a_1 := o4_a.cell (i := 1) rfl
    have q4_a_2 := o4_a.cell (i := 2) rfl
    have q4_a_3 := o4_a.cell (i := 3) rfl
    have l4_a := o4_a.lt
    have H4_a := hide o4_a
    clear o4_a
    have hy4 : w.heap.size ≤ w4.heap.size := hB4.size
    clear hk4
    go_wp2_with fail
    refine (I8.out _ _ _ ⟨H4_iss1.out, H4_blk1.out, by omega⟩).mono ?_
    rintro e w5 ⟨rfl, hI5, hk5⟩
    have hB5 : Below w.heap.size w w5 := by
      refine Below.trans ?_ (Kept.below hk5 ?_ ?_)
      · go_grown
      · first | omega | (simp; done) | (simp; omega)
      · intro x hx; simp at hx; omega
    have o5_r : ObjAt w5 (w1.heap.size) 40 [.int .i64 0, .int .i64 k0, .int .i64 0] := Kept.obj hk5 (H4_r.out) (by simp; omega)
    have o5_iss1 : ObjAt w5 (w1.heap.size + 1 + 1) 90 [.pointer (some ⟨w1.heap.size + 1, 0, none⟩), .int .i64 2] := hI5.1
    have o5_blk1 : ObjAt w5 (w1.heap.size + 1) 111 [.int .i64 9, .int .i64 16] := hI5.2.1
    have o5_a : ObjAt w5 (w3.heap.size) 46 [.int .i64 0, .int .i64 0, .int .i64 10, .int .i64 g0] := Kept.obj hk5 (H4_a.out) (by simp; omega)
    clear q4_r_0 q4_r_1 q4_r_2 H4_r q4_iss1_0 q4_iss1_1 H4_iss1 q4_blk1_0 q4_blk1_1 H4_blk1 q4_a_0 q4_a_1 q4_a_2 q4_a_3 H4_a
    have q5_r_0 := o5_r.cell (i := 0) rfl
    have q5_r_1 := o5_r.cell (i := 1) rfl
    have q5_r_2 := o5_r.cell (i := 2) rfl
    have l5_r := o5_r.lt
    have H5_r := hide o5_r
    clear o5_r
    have q5_iss1_0 := o5_iss1.cell (i := 0) rfl
    have q5_iss1_1 := o5_iss1.cell (i := 1) rfl
    have l5_iss1 := o5_iss1.lt
    have H5_iss1 := hide o5_iss1
    clear o5_iss1
    have q5_blk1_0 := o5_blk1.cell (i := 0) rfl
    have q5_blk1_1 := o5_blk1.cell (i := 1) rfl
    have l5_blk1 := o5_blk1.lt
    have H5_blk1 := hide o5_blk1
    clear o5_blk1
    have q5_a_0 := o5_a.cell (i := 0) rfl
    have q5_a_1 := o5_a.cell (i := 1) rfl
    have q5_a_2 := o5_a.cell (i := 2) rfl
    have q5_a_3 := o5_a.cell (i := 3) rfl
    have l5_a := o5_a.lt
    have H5_a := hide o5_a
    clear o5_a
    have hy5 : w.heap.size ≤ w5.heap.size := hB5.size
    clear hk5
    go_wp2_with fail
    refine (issueNew _).mono ?_
    rintro e w6 ⟨rfl, hI6, hb6⟩
    have hI6 : IssAt w6 (w5.heap.size + 1 + 1) (w5.heap.size + 1) 0 0 0 := by simpa using hI6
    have hB6 : Below w.heap.size w w6 := by
      refine Below.trans ?_ (Below.mono hb6 ?_)
      · go_grown
      · first | omega | (simp; done) | (simp; omega)
    have o6_r : ObjAt w6 (w1.heap.size) 40 [.int .i64 0, .int .i64 k0, .int .i64 0] := ObjAt.below (ObjAt.alloc (H5_r.out) _) hb6
    have o6_iss1 : ObjAt w6 (w1.heap.size + 1 + 1) 90 [.pointer (some ⟨w1.heap.size + 1, 0, none⟩), .int .i64 2] := ObjAt.below (ObjAt.alloc (H5_iss1.out) _) hb6
    have o6_blk1 : ObjAt w6 (w1.heap.size + 1) 111 [.int .i64 9, .int .i64 16] := ObjAt.below (ObjAt.alloc (H5_blk1.out) _) hb6
    have o6_a : ObjAt w6 (w3.heap.size) 46 [.int .i64 0, .int .i64 0, .int .i64 10, .int .i64 g0] := ObjAt.below (ObjAt.alloc (H5_a.out) _) hb6
    have o6_b : ObjAt w6 (w5.heap.size) 46 [.int .i64 0, .int .i64 8, .int .i64 10, .int .i64 g8] := ObjAt.below (objNew (by simp)) hb6
    clear q5_r_0 q5_r_1 q5_r_2 H5_r q5_iss1_0 q5_iss1_1 H5_iss1 q5_blk1_0 q5_blk1_1 H5_blk1 q5_a_0 q5_a_1 q5_a_2 q5_a_3 H5_a
    have q6_r_0 := o6_r.cell (i := 0) rfl
    have q6_r_1 := o6_r.cell (i := 1) rfl
    have q6_r_2 := o6_r.cell (i := 2) rfl
    have l6_r := o6_r.lt
    have H6_r := hide o6_r
    clear o6_r
    have q6_iss1_0 := o6_iss1.cell (i := 0) rfl
    have q6_iss1_1 := o6_iss1.cell (i := 1) rfl
    have l6_iss1 := o6_iss1.lt
    have H6_iss1 := hide o6_iss1
    clear o6_iss1
    have q6_blk1_0 := o6_blk1.cell (i := 0) rfl
    have q6_blk1_1 := o6_blk1.cell (i := 1) rfl
    have l6_blk1 := o6_blk1.lt
    have H6_blk1 := hide o6_blk1
    clear o6_blk1
    have q6_a_0 := o6_a.cell (i := 0) rfl
    have q6_a_1 := o6_a.cell (i := 1) rfl
    have q6_a_2 := o6_a.cell (i := 2) rfl
    have q6_a_3 := o6_a.cell (i := 3) rfl
    have l6_a := o6_a.lt
    have H6_a := hide o6_a
    clear o6_a
    have q6_b_0 := o6_b.cell (i := 0) rfl
    have q6_b_1 := o6_b.cell (i := 1) rfl
    have q6_b_2 := o6_b.cell (i := 2) rfl
    have q6_b_3 := o6_b.cell (i := 3) rfl
    have l6_b := o6_b.lt
    have H6_b := hide o6_b
    clear o6_b
    have hy6 : w.heap.size ≤ w6.heap.size := hB6.size
    clear hb6
    have l6_iss2 := (hI6.1).lt
    have H6_iss2 := hide hI6.1
    have l6_blk2 := (hI6.2.1).lt
    have H6_blk2 := hide hI6.2.1
    clear hI6
    go_wp2_with fail
    go_loopw [15, 16] (fun lv i wr => ∃ (j : Nat) (n m la many : Int), i = .int .i64 j ∧ j ≤ 100 ∧ lv = .int .i64 la ∧ -1 ≤ la ∧ la < n ∧ 0 ≤ n ∧ n ≤ m ∧ m ≤ 1000 ∧ 0 ≤ many ∧ many ≤ j ∧ ObjAt wr (w1.heap.size) 40 [.int .i64 0, .int .i64 k0, .int .i64 0] ∧ ObjAt wr (w5.heap.size + 1 + 1) 90 [.pointer (some ⟨w5.heap.size + 1, 0, none⟩), .int .i64 many] ∧ ObjAt wr (w5.heap.size + 1) 111 [.int .i64 n, .int .i64 m] ∧ Below w.heap.size w wr) (fun _ i _ => 200 - (intOf i).toNat)
    case atStart => exact ⟨0, 0, 0, -1, 0, rfl, by omega, rfl, by omega, by omega, by omega, by omega, by omega, by omega, by omega, H6_r.out, H6_iss2.out, H6_blk2.out, by go_grown⟩
    case round =>
      obtain ⟨j, n, m, la, many, rfl, hj, rfl, hla0, hla, hn0, hnm, hm0, hmy0, hmy1, ho_r, ho_i, ho_b, hb⟩ := hrel
      have hyr : w.heap.size ≤ wr.heap.size := hb.size
      clear I0 I8 RN q6_r_0 q6_r_1 q6_r_2 H6_r q6_iss1_0 q6_iss1_1 H6_iss1 q6_blk1_0 q6_blk1_1 H6_blk1 q6_a_0 q6_a_1 q6_a_2 q6_a_3 H6_a q6_b_0 q6_b_1 q6_b_2 q6_b_3 H6_b H6_iss2 H6_blk2
      have lr : w1.heap.size < w5.heap.size + 1 := by omega
      have lw : w.heap.size ≤ w1.heap.size := by omega
      have p_r_0 := ho_r.cell (i := 0) rfl
      have p_r_1 := ho_r.cell (i := 1) rfl
      have p_r_2 := ho_r.cell (i := 2) rfl
      have p_i_0 := ho_i.cell (i := 0) rfl
      have p_i_1 := ho_i.cell (i := 1) rfl
      have p_b_0 := ho_b.cell (i := 0) rfl
      have p_b_1 := ho_b.cell (i := 1) rfl
      have l_r := ho_r.lt
      have l_i := ho_i.lt
      have l_b := ho_b.lt
      have O_r := hide ho_r
      have O_i := hide ho_i
      have O_b := hide ho_b
      clear ho_r ho_i ho_b
      by_cases h1 : j < len
      · by_cases h2 : j < len2
        · by_cases h3 : j < 100
          · obtain ⟨ab, ao, rfl, hlt1, _, _, hc1⟩ := HR.out.resolve_left (by omega)
            obtain ⟨bb2, bo, rfl, hlt2, _, _, hc2⟩ := HR2.out.resolve_left (by omega)
            have cz := (hb.cell (p := ⟨ab, ao + j, none⟩) hlt1).trans (hc1 j h1)
            have CU := hide (fun (W : World) (hB : Below w.heap.size w W) => (hB.cell (p := ⟨bb2, bo + j, none⟩) hlt2).trans (hc2 j h2))
            have cu := CU.out wr hb
            have lu : bb2 < wr.heap.size := by omega
            obtain ⟨z, hz⟩ : ∃ z, z = zs.getD j 0 := ⟨_, rfl⟩
            obtain ⟨u, hu⟩ : ∃ u, u = us.getD j 0 := ⟨_, rfl⟩
            rw [← hz] at cz
            rw [← hu] at CU cu
            clear hz hu hc1 hc2
            by_cases hz0 : z = 0
            · have tz : (z == 0) = true := by simp [hz0]
              subst hz0
              clear tz cu
              go_wp2_with fail
              refine (issueCrash _ _ n m many _ ⟨O_i.out, O_b.out, by omega⟩).mono ?_
              rintro e w21 ⟨rfl, hI21, hk21⟩
              have hB21 : Below w.heap.size w w21 := by
                refine Below.trans ?_ (Kept.below hk21 ?_ ?_)
                · go_grown
                · first | omega | (simp; done) | (simp; omega)
                · intro x hx; simp at hx; omega
              have o21_r : ObjAt w21 (w1.heap.size) 40 [.int .i64 0, .int .i64 k0, .int .i64 0] := Kept.obj hk21 (O_r.out) (by simp; omega)
              have o21_iss2 : ObjAt w21 (w5.heap.size + 1 + 1) 90 [.pointer (some ⟨w5.heap.size + 1, 0, none⟩), .int .i64 many] := hI21.1
              have o21_blk2 : ObjAt w21 (w5.heap.size + 1) 111 [.int .i64 m, .int .i64 m] := hI21.2.1
              clear p_r_0 p_r_1 p_r_2 p_i_0 p_i_1 p_b_0 p_b_1 O_r O_i O_b
              have q21_r_0 := o21_r.cell (i := 0) rfl
              have q21_r_1 := o21_r.cell (i := 1) rfl
              have q21_r_2 := o21_r.cell (i := 2) rfl
              have l21_r := o21_r.lt
              have H21_r := hide o21_r
              clear o21_r
              have q21_iss2_0 := o21_iss2.cell (i := 0) rfl
              have q21_iss2_1 := o21_iss2.cell (i := 1) rfl
              have l21_iss2 := o21_iss2.lt
              have H21_iss2 := hide o21_iss2
              clear o21_iss2
              have q21_blk2_0 := o21_blk2.cell (i := 0) rfl
              have q21_blk2_1 := o21_blk2.cell (i := 1) rfl
              have l21_blk2 := o21_blk2.lt
              have H21_blk2 := hide o21_blk2
              clear o21_blk2
              have hy21 : w.heap.size ≤ w21.heap.size := hB21.size
              clear hk21
              go_wp2
              go_roundw
              case rel => exact ⟨j + 1, m, m, la, many, by go_num, by omega, rfl, by omega, by omega, by omega, by omega, by omega, by omega, by omega, H21_r.out, H21_iss2.out, H21_blk2.out, by go_grown⟩
              case measure => simp [intOf] <;> omega
            · have tz : (z == 0) = false := beq_eq_false_iff_ne.2 hz0
              clear hz0
              cases hu : tmB u
              ·
                have IB := hide (fun W => issue_bad (w5.heap.size + 1 + 1) 0 k0 0 u 1 W (by unfold tkmE; rw [if_neg (by simp [Hre.out]), hu]; simp) (by decide))
                clear hu
                go_wp2_with fail
                have HS21 : Hid (∀ W, Below wr.heap.size wr W → W.cell? ⟨w1.heap.size, 0, none⟩ = some (.int .i64 0) ∧ W.cell? ⟨w1.heap.size, 1, none⟩ = some (.int .i64 k0) ∧ W.cell? ⟨w1.heap.size, 2, none⟩ = some (.int .i64 0) ∧ W.cell? ⟨bb2, bo + j, none⟩ = some (.int .i64 u)) := by
                  intro W hW
                  refine ⟨(hW.cell (p := ⟨w1.heap.size, 0, none⟩) (by simp; omega)).trans (by assumption), (hW.cell (p := ⟨w1.heap.size, 1, none⟩) (by simp; omega)).trans (by assumption), (hW.cell (p := ⟨w1.heap.size, 2, none⟩) (by simp; omega)).trans (by assumption), (hW.cell (p := ⟨bb2, bo + j, none⟩) (by simp; omega)).trans (by assumption)⟩
                go_region_held3 (fun w' => w'.cell? ⟨w1.heap.size, 0, none⟩ = some (.int .i64 0) ∧ w'.cell? ⟨w1.heap.size, 1, none⟩ = some (.int .i64 k0) ∧ w'.cell? ⟨w1.heap.size, 2, none⟩ = some (.int .i64 0) ∧ w'.cell? ⟨bb2, bo + j, none⟩ = some (.int .i64 u)) (first | exact HS21.out _ (by assumption) | (refine HS21.out _ ?_; go_grown) | go_keep)
                  (first | (go_at_call 17; refine (IB.out _).mono ?_; rintro e w21 ⟨rfl, hb21⟩; have hw21 : Below wr.heap.size wr w21 := Below.trans (by go_grown) (Below.mono hb21 (by first | omega | (simp; done) | (simp; omega))); obtain ⟨c21, d21⟩ := bcell hb21; have hs21 := hb21.size; (try simp at hs21)))
                ·
                  have hB21 : Below w.heap.size w w21 := by
                    refine Below.trans ?_ (Below.mono hb21 ?_)
                    · go_grown
                    · first | omega | (simp; done) | (simp; omega)
                  have o21_r : ObjAt w21 (w1.heap.size) 40 [.int .i64 0, .int .i64 k0, .int .i64 0] := ObjAt.below (ObjAt.drew (O_r.out)) hb21
                  have o21_iss2 : ObjAt w21 (w5.heap.size + 1 + 1) 90 [.pointer (some ⟨w5.heap.size + 1, 0, none⟩), .int .i64 many] := ObjAt.below (ObjAt.drew (O_i.out)) hb21
                  have o21_blk2 : ObjAt w21 (w5.heap.size + 1) 111 [.int .i64 n, .int .i64 m] := ObjAt.below (ObjAt.drew (O_b.out)) hb21
                  clear p_r_0 p_r_1 p_r_2 p_i_0 p_i_1 p_b_0 p_b_1 O_r O_i O_b
                  have q21_r_0 := o21_r.cell (i := 0) rfl
                  have q21_r_1 := o21_r.cell (i := 1) rfl
                  have q21_r_2 := o21_r.cell (i := 2) rfl
                  have l21_r := o21_r.lt
                  have H21_r := hide o21_r
                  clear o21_r
                  have q21_iss2_0 := o21_iss2.cell (i := 0) rfl
                  have q21_iss2_1 := o21_iss2.cell (i := 1) rfl
                  have l21_iss2 := o21_iss2.lt
                  have H21_iss2 := hide o21_iss2
                  clear o21_iss2
                  have q21_blk2_0 := o21_blk2.cell (i := 0) rfl
                  have q21_blk2_1 := o21_blk2.cell (i := 1) rfl
                  have l21_blk2 := o21_blk2.lt
                  have H21_blk2 := hide o21_blk2
                  clear o21_blk2
                  have hy21 : w.heap.size ≤ w21.heap.size := hB21.size
                  clear hb21
                  clear HS21 c21 d21 hs21
                  go_wp2
                  go_roundw
                  case rel => exact ⟨j + 1, n, m, la, many, by go_num, by omega, rfl, by omega, by omega, by omega, by omega, by omega, by omega, by omega, ObjAt.alloc (H21_r.out) _, ObjAt.alloc (H21_iss2.out) _, ObjAt.alloc (H21_blk2.out) _, by go_grown⟩
                  case measure => simp [intOf] <;> omega
                ·
                  have hB21 : Below w.heap.size w w21 := by
                    refine Below.trans ?_ (Below.mono hb21 ?_)
                    · go_grown
                    · first | omega | (simp; done) | (simp; omega)
                  have o21_r : ObjAt w21 (w1.heap.size) 40 [.int .i64 0, .int .i64 k0, .int .i64 0] := ObjAt.below (ObjAt.drew (ObjAt.alloc (O_r.out) _)) hb21
                  have o21_iss2 : ObjAt w21 (w5.heap.size + 1 + 1) 90 [.pointer (some ⟨w5.heap.size + 1, 0, none⟩), .int .i64 many] := ObjAt.below (ObjAt.drew (ObjAt.alloc (O_i.out) _)) hb21
                  have o21_blk2 : ObjAt w21 (w5.heap.size + 1) 111 [.int .i64 n, .int .i64 m] := ObjAt.below (ObjAt.drew (ObjAt.alloc (O_b.out) _)) hb21
                  have o21_t : ObjAt w21 (wr.heap.size) 46 [.int .i64 0, .int .i64 0, .int .i64 0, .int .i64 0] := ObjAt.below (ObjAt.drew (objNew (by simp))) hb21
                  clear p_r_0 p_r_1 p_r_2 p_i_0 p_i_1 p_b_0 p_b_1 O_r O_i O_b
                  have q21_r_0 := o21_r.cell (i := 0) rfl
                  have q21_r_1 := o21_r.cell (i := 1) rfl
                  have q21_r_2 := o21_r.cell (i := 2) rfl
                  have l21_r := o21_r.lt
                  have H21_r := hide o21_r
                  clear o21_r
                  have q21_iss2_0 := o21_iss2.cell (i := 0) rfl
                  have q21_iss2_1 := o21_iss2.cell (i := 1) rfl
                  have l21_iss2 := o21_iss2.lt
                  have H21_iss2 := hide o21_iss2
                  clear o21_iss2
                  have q21_blk2_0 := o21_blk2.cell (i := 0) rfl
                  have q21_blk2_1 := o21_blk2.cell (i := 1) rfl
                  have l21_blk2 := o21_blk2.lt
                  have H21_blk2 := hide o21_blk2
                  clear o21_blk2
                  have q21_t_0 := o21_t.cell (i := 0) rfl
                  have f21_t_0 := o21_t.free 0
                  have q21_t_1 := o21_t.cell (i := 1) rfl
                  have f21_t_1 := o21_t.free 1
                  have q21_t_2 := o21_t.cell (i := 2) rfl
                  have f21_t_2 := o21_t.free 2
                  have q21_t_3 := o21_t.cell (i := 3) rfl
                  have f21_t_3 := o21_t.free 3
                  have l21_t := o21_t.lt
                  have H21_t := hide o21_t
                  clear o21_t
                  have hy21 : w.heap.size ≤ w21.heap.size := hB21.size
                  clear hb21
                  clear HS21 c21 d21 hs21
                  go_wp2
                  go_roundw
                  case rel => exact ⟨j + 1, n, m, la, many, by go_num, by omega, rfl, by omega, by omega, by omega, by omega, by omega, by omega, by omega, ObjAt.other4 (H21_r.out) (by omega), ObjAt.other4 (H21_iss2.out) (by omega), ObjAt.other4 (H21_blk2.out) (by omega), by go_grown⟩
                  case measure => simp [intOf] <;> omega
              ·
                rcases blkNext_cases n m hn0 hnm hm0 with ⟨hnm2, hfull⟩ | ⟨n', m', hN, hx1, hx2, hx3⟩
                ·
                  subst hnm2
                  have IF := hide (fun (W : World) h => issue_full (w5.heap.size + 1 + 1) (w5.heap.size + 1) 0 k0 0 u n many W h Hre.out hu hn0 hm0 (by omega))
                  have HI0 : Hid (IssAt wr (w5.heap.size + 1 + 1) (w5.heap.size + 1) n n many) := hide ⟨O_i.out, O_b.out, by omega⟩
                  go_wp2_with fail
                  have HS21 : Hid (∀ W, Kept [w5.heap.size + 1 + 1, w5.heap.size + 1] wr W → W.cell? ⟨w1.heap.size, 0, none⟩ = some (.int .i64 0) ∧ W.cell? ⟨w1.heap.size, 1, none⟩ = some (.int .i64 k0) ∧ W.cell? ⟨w1.heap.size, 2, none⟩ = some (.int .i64 0) ∧ W.cell? ⟨bb2, bo + j, none⟩ = some (.int .i64 u)) := by
                    intro W hW
                    refine ⟨(hW.cell (p := ⟨w1.heap.size, 0, none⟩) (by simp; omega) (by simp; omega)).trans (by assumption), (hW.cell (p := ⟨w1.heap.size, 1, none⟩) (by simp; omega) (by simp; omega)).trans (by assumption), (hW.cell (p := ⟨w1.heap.size, 2, none⟩) (by simp; omega) (by simp; omega)).trans (by assumption), (hW.cell (p := ⟨bb2, bo + j, none⟩) (by simp; omega) (by simp; omega)).trans (by assumption)⟩
                  go_region_held3 (fun w' => w'.cell? ⟨w1.heap.size, 0, none⟩ = some (.int .i64 0) ∧ w'.cell? ⟨w1.heap.size, 1, none⟩ = some (.int .i64 k0) ∧ w'.cell? ⟨w1.heap.size, 2, none⟩ = some (.int .i64 0) ∧ w'.cell? ⟨bb2, bo + j, none⟩ = some (.int .i64 u)) (first | exact HS21.out _ (by assumption) | (refine HS21.out _ ?_; (first | exact Kept.alloc (by assumption) _ | exact Kept.new4 (by assumption) (Or.inr (by first | omega | (simp; omega))))) | go_keep)
                    (first | (go_at_call 17; refine (IF.out _ (IssAt.below HI0.out (by go_grown))).mono ?_; rintro e w21 ⟨rfl, hI21, hk21⟩; have hw21 : Kept [w5.heap.size + 1 + 1, w5.heap.size + 1] wr w21 := Kept.trans (Kept.of_below (by go_grown) _) hk21; obtain ⟨c21, d21⟩ := kcell hk21; have hs21 := hk21.size; (try simp at hs21); have hn21 : ¬ wr.heap.size ∈ [w5.heap.size + 1 + 1, w5.heap.size + 1] := (by simp; omega)))
                  ·
                    have hB21 : Below w.heap.size w w21 := by
                      refine Below.trans ?_ (Kept.below hk21 ?_ ?_)
                      · go_grown
                      · first | omega | (simp; done) | (simp; omega)
                      · intro x hx; simp at hx; omega
                    have o21_r : ObjAt w21 (w1.heap.size) 40 [.int .i64 0, .int .i64 k0, .int .i64 0] := Kept.obj hk21 (ObjAt.drew (O_r.out)) (by simp; omega)
                    have o21_iss2 : ObjAt w21 (w5.heap.size + 1 + 1) 90 [.pointer (some ⟨w5.heap.size + 1, 0, none⟩), .int .i64 many] := hI21.1
                    have o21_blk2 : ObjAt w21 (w5.heap.size + 1) 111 [.int .i64 n, .int .i64 n] := hI21.2.1
                    clear p_r_0 p_r_1 p_r_2 p_i_0 p_i_1 p_b_0 p_b_1 O_r O_i O_b
                    have q21_r_0 := o21_r.cell (i := 0) rfl
                    have q21_r_1 := o21_r.cell (i := 1) rfl
                    have q21_r_2 := o21_r.cell (i := 2) rfl
                    have l21_r := o21_r.lt
                    have H21_r := hide o21_r
                    clear o21_r
                    have q21_iss2_0 := o21_iss2.cell (i := 0) rfl
                    have q21_iss2_1 := o21_iss2.cell (i := 1) rfl
                    have l21_iss2 := o21_iss2.lt
                    have H21_iss2 := hide o21_iss2
                    clear o21_iss2
                    have q21_blk2_0 := o21_blk2.cell (i := 0) rfl
                    have q21_blk2_1 := o21_blk2.cell (i := 1) rfl
                    have l21_blk2 := o21_blk2.lt
                    have H21_blk2 := hide o21_blk2
                    clear o21_blk2
                    have hy21 : w.heap.size ≤ w21.heap.size := hB21.size
                    clear hk21
                    clear HS21 c21 d21 hs21
                    go_wp2
                    go_roundw
                    case rel => exact ⟨j + 1, n, n, la, many, by go_num, by omega, rfl, by omega, by omega, by omega, by omega, by omega, by omega, by omega, ObjAt.alloc (H21_r.out) _, ObjAt.alloc (H21_iss2.out) _, ObjAt.alloc (H21_blk2.out) _, by go_grown⟩
                    case measure => simp [intOf] <;> omega
                  ·
                    have hB21 : Below w.heap.size w w21 := by
                      refine Below.trans ?_ (Kept.below hk21 ?_ ?_)
                      · go_grown
                      · first | omega | (simp; done) | (simp; omega)
                      · intro x hx; simp at hx; omega
                    have o21_r : ObjAt w21 (w1.heap.size) 40 [.int .i64 0, .int .i64 k0, .int .i64 0] := Kept.obj hk21 (ObjAt.drew (ObjAt.alloc (O_r.out) _)) (by simp; omega)
                    have o21_iss2 : ObjAt w21 (w5.heap.size + 1 + 1) 90 [.pointer (some ⟨w5.heap.size + 1, 0, none⟩), .int .i64 many] := hI21.1
                    have o21_blk2 : ObjAt w21 (w5.heap.size + 1) 111 [.int .i64 n, .int .i64 n] := hI21.2.1
                    have o21_t : ObjAt w21 (wr.heap.size) 46 [.int .i64 0, .int .i64 0, .int .i64 0, .int .i64 0] := Kept.obj hk21 (ObjAt.drew (objNew (by simp))) (by simp; omega)
                    clear p_r_0 p_r_1 p_r_2 p_i_0 p_i_1 p_b_0 p_b_1 O_r O_i O_b
                    have q21_r_0 := o21_r.cell (i := 0) rfl
                    have q21_r_1 := o21_r.cell (i := 1) rfl
                    have q21_r_2 := o21_r.cell (i := 2) rfl
                    have l21_r := o21_r.lt
                    have H21_r := hide o21_r
                    clear o21_r
                    have q21_iss2_0 := o21_iss2.cell (i := 0) rfl
                    have q21_iss2_1 := o21_iss2.cell (i := 1) rfl
                    have l21_iss2 := o21_iss2.lt
                    have H21_iss2 := hide o21_iss2
                    clear o21_iss2
                    have q21_blk2_0 := o21_blk2.cell (i := 0) rfl
                    have q21_blk2_1 := o21_blk2.cell (i := 1) rfl
                    have l21_blk2 := o21_blk2.lt
                    have H21_blk2 := hide o21_blk2
                    clear o21_blk2
                    have q21_t_0 := o21_t.cell (i := 0) rfl
                    have f21_t_0 := o21_t.free 0
                    have q21_t_1 := o21_t.cell (i := 1) rfl
                    have f21_t_1 := o21_t.free 1
                    have q21_t_2 := o21_t.cell (i := 2) rfl
                    have f21_t_2 := o21_t.free 2
                    have q21_t_3 := o21_t.cell (i := 3) rfl
                    have f21_t_3 := o21_t.free 3
                    have l21_t := o21_t.lt
                    have H21_t := hide o21_t
                    clear o21_t
                    have hy21 : w.heap.size ≤ w21.heap.size := hB21.size
                    clear hk21
                    clear HS21 c21 d21 hs21
                    go_wp2
                    go_roundw
                    case rel => exact ⟨j + 1, n, n, la, many, by go_num, by omega, rfl, by omega, by omega, by omega, by omega, by omega, by omega, by omega, ObjAt.other4 (H21_r.out) (by omega), ObjAt.other4 (H21_iss2.out) (by omega), ObjAt.other4 (H21_blk2.out) (by omega), by go_grown⟩
                    case measure => simp [intOf] <;> omega
                ·
                  have CKE : tickE 0 k0 0 0 n u (tagOf k0 [2, n, u]) u = 0 := by have := tmB_true.1 hu; rw [tickE_made Hre.out (inB_true.2 ⟨hn0, by omega⟩) hu (by omega) (by omega), if_neg (by omega)]
                  have ISS := hide (fun (W : World) h => issue_ok (w5.heap.size + 1 + 1) (w5.heap.size + 1) 0 k0 0 u n m n n' m' many W h Hre.out hu hn0 hnm hm0 hN (by omega))
                  obtain ⟨tg, htg⟩ : ∃ t, t = tagOf k0 [2, n, u] := ⟨_, rfl⟩
                  rw [← htg] at CKE ISS
                  have CK : Hid (∀ W, Calls Try.prog 19 #[.agg #[.int .i64 0, .int .i64 k0, .int .i64 0], .agg #[.int .i64 0, .int .i64 n, .int .i64 u, .int .i64 tg], .int .i64 u] W fun r w' => r = .returned .nilIface ∧ Below W.heap.size W w') := ticketCheck_eq CKE
                  have HI0 : Hid (IssAt wr (w5.heap.size + 1 + 1) (w5.heap.size + 1) n m many) := hide ⟨O_i.out, O_b.out, by omega⟩
                  clear htg hN hu CKE
                  go_wp2_with fail
                  have HS21 : Hid (∀ W, Kept [w5.heap.size + 1 + 1, w5.heap.size + 1] wr W → W.cell? ⟨w1.heap.size, 0, none⟩ = some (.int .i64 0) ∧ W.cell? ⟨w1.heap.size, 1, none⟩ = some (.int .i64 k0) ∧ W.cell? ⟨w1.heap.size, 2, none⟩ = some (.int .i64 0) ∧ W.cell? ⟨bb2, bo + j, none⟩ = some (.int .i64 u)) := by
                    intro W hW
                    refine ⟨(hW.cell (p := ⟨w1.heap.size, 0, none⟩) (by simp; omega) (by simp; omega)).trans (by assumption), (hW.cell (p := ⟨w1.heap.size, 1, none⟩) (by simp; omega) (by simp; omega)).trans (by assumption), (hW.cell (p := ⟨w1.heap.size, 2, none⟩) (by simp; omega) (by simp; omega)).trans (by assumption), (hW.cell (p := ⟨bb2, bo + j, none⟩) (by simp; omega) (by simp; omega)).trans (by assumption)⟩
                  go_region_held3 (fun w' => w'.cell? ⟨w1.heap.size, 0, none⟩ = some (.int .i64 0) ∧ w'.cell? ⟨w1.heap.size, 1, none⟩ = some (.int .i64 k0) ∧ w'.cell? ⟨w1.heap.size, 2, none⟩ = some (.int .i64 0) ∧ w'.cell? ⟨bb2, bo + j, none⟩ = some (.int .i64 u)) (first | exact HS21.out _ (by assumption) | (refine HS21.out _ ?_; (first | exact Kept.alloc (by assumption) _ | exact Kept.new4 (by assumption) (Or.inr (by first | omega | (simp; omega))))) | go_keep)
                    (first | (go_at_call 17; refine (ISS.out _ (IssAt.below HI0.out (by go_grown))).mono ?_; rintro e w21 ⟨rfl, hI21, hk21⟩; have hw21 : Kept [w5.heap.size + 1 + 1, w5.heap.size + 1] wr w21 := Kept.trans (Kept.of_below (by go_grown) _) hk21; obtain ⟨c21, d21⟩ := kcell hk21; have hs21 := hk21.size; (try simp at hs21); have hn21 : ¬ wr.heap.size ∈ [w5.heap.size + 1 + 1, w5.heap.size + 1] := (by simp; omega)))
                  ·
                    have hB21 : Below w.heap.size w w21 := by
                      refine Below.trans ?_ (Kept.below hk21 ?_ ?_)
                      · go_grown
                      · first | omega | (simp; done) | (simp; omega)
                      · intro x hx; simp at hx; omega
                    have o21_r : ObjAt w21 (w1.heap.size) 40 [.int .i64 0, .int .i64 k0, .int .i64 0] := Kept.obj hk21 (ObjAt.drew (O_r.out)) (by simp; omega)
                    have o21_iss2 : ObjAt w21 (w5.heap.size + 1 + 1) 90 [.pointer (some ⟨w5.heap.size + 1, 0, none⟩), .int .i64 (many + 1)] := hI21.1
                    have o21_blk2 : ObjAt w21 (w5.heap.size + 1) 111 [.int .i64 n', .int .i64 m'] := hI21.2.1
                    clear p_r_0 p_r_1 p_r_2 p_i_0 p_i_1 p_b_0 p_b_1 O_r O_i O_b
                    have q21_r_0 := o21_r.cell (i := 0) rfl
                    have q21_r_1 := o21_r.cell (i := 1) rfl
                    have q21_r_2 := o21_r.cell (i := 2) rfl
                    have l21_r := o21_r.lt
                    have H21_r := hide o21_r
                    clear o21_r
                    have q21_iss2_0 := o21_iss2.cell (i := 0) rfl
                    have q21_iss2_1 := o21_iss2.cell (i := 1) rfl
                    have l21_iss2 := o21_iss2.lt
                    have H21_iss2 := hide o21_iss2
                    clear o21_iss2
                    have q21_blk2_0 := o21_blk2.cell (i := 0) rfl
                    have q21_blk2_1 := o21_blk2.cell (i := 1) rfl
                    have l21_blk2 := o21_blk2.lt
                    have H21_blk2 := hide o21_blk2
                    clear o21_blk2
                    have hy21 : w.heap.size ≤ w21.heap.size := hB21.size
                    clear hk21
                    clear HS21 c21 d21 hs21
                    obtain ⟨w22, hW22⟩ : ∃ W : World, W = w21.alloc (.cells #[.int .i64 0, .int .i64 n, .int .i64 u, .int .i64 tg] 46) := ⟨_, rfl⟩
                    have hB22 : Below w.heap.size w w22 := by rw [hW22]; go_grown
                    have o22_r : ObjAt w22 (w1.heap.size) 40 [.int .i64 0, .int .i64 k0, .int .i64 0] := by rw [hW22]; exact ObjAt.alloc (H21_r.out) _
                    have o22_iss2 : ObjAt w22 (w5.heap.size + 1 + 1) 90 [.pointer (some ⟨w5.heap.size + 1, 0, none⟩), .int .i64 (many + 1)] := by rw [hW22]; exact ObjAt.alloc (H21_iss2.out) _
                    have o22_blk2 : ObjAt w22 (w5.heap.size + 1) 111 [.int .i64 n', .int .i64 m'] := by rw [hW22]; exact ObjAt.alloc (H21_blk2.out) _
                    have o22_t : ObjAt w22 (w21.heap.size) 46 [.int .i64 0, .int .i64 n, .int .i64 u, .int .i64 tg] := by rw [hW22]; exact objNew (by simp)
                    rw [← hW22]
                    clear hW22
                    clear q21_r_0 q21_r_1 q21_r_2 H21_r q21_iss2_0 q21_iss2_1 H21_iss2 q21_blk2_0 q21_blk2_1 H21_blk2
                    have q22_r_0 := o22_r.cell (i := 0) rfl
                    have q22_r_1 := o22_r.cell (i := 1) rfl
                    have q22_r_2 := o22_r.cell (i := 2) rfl
                    have l22_r := o22_r.lt
                    have H22_r := hide o22_r
                    clear o22_r
                    have q22_iss2_0 := o22_iss2.cell (i := 0) rfl
                    have q22_iss2_1 := o22_iss2.cell (i := 1) rfl
                    have l22_iss2 := o22_iss2.lt
                    have H22_iss2 := hide o22_iss2
                    clear o22_iss2
                    have q22_blk2_0 := o22_blk2.cell (i := 0) rfl
                    have q22_blk2_1 := o22_blk2.cell (i := 1) rfl
                    have l22_blk2 := o22_blk2.lt
                    have H22_blk2 := hide o22_blk2
                    clear o22_blk2
                    have q22_t_0 := o22_t.cell (i := 0) rfl
                    have f22_t_0 := o22_t.free 0
                    have q22_t_1 := o22_t.cell (i := 1) rfl
                    have f22_t_1 := o22_t.free 1
                    have q22_t_2 := o22_t.cell (i := 2) rfl
                    have f22_t_2 := o22_t.free 2
                    have q22_t_3 := o22_t.cell (i := 3) rfl
                    have f22_t_3 := o22_t.free 3
                    have l22_t := o22_t.lt
                    have H22_t := hide o22_t
                    clear o22_t
                    have hy22 : w.heap.size ≤ w22.heap.size := hB22.size
                    have cu := CU.out _ hB22
                    have lu : bb2 < w22.heap.size := by omega
                    have tla : decide (n ≤ la) = false := decide_eq_false (by omega)
                    have tlu : (u != u) = false := by simp
                    go_wp2_with fail
                    go_region_held3 (fun w' => w'.cell? ⟨w1.heap.size, 0, none⟩ = some (.int .i64 0) ∧ w'.cell? ⟨w1.heap.size, 1, none⟩ = some (.int .i64 k0) ∧ w'.cell? ⟨w1.heap.size, 2, none⟩ = some (.int .i64 0) ∧ w'.cell? ⟨w21.heap.size, 0, none⟩ = some (.int .i64 0) ∧ w'.cell? ⟨w21.heap.size, 1, none⟩ = some (.int .i64 n) ∧ w'.cell? ⟨w21.heap.size, 2, none⟩ = some (.int .i64 u) ∧ w'.cell? ⟨w21.heap.size, 3, none⟩ = some (.int .i64 tg) ∧ w'.cell? ⟨bb2, bo + j, none⟩ = some (.int .i64 u)) (go_keep) (first
                      | (go_at_call 19; refine (CK.out _).mono ?_; rintro e w23 ⟨rfl, hb23⟩; have hB23 : Below w.heap.size w w23 := (by refine Below.trans ?_ (Below.mono hb23 ?_); (first | exact hB22.drew | go_grown); (first | omega | (simp; done) | (simp; omega))); have c23 : ∀ b o, b < w22.heap.size → w23.cell? ⟨b, o, none⟩ = w22.cell? ⟨b, o, none⟩ := (bcell hb23).1; have l23_r : w1.heap.size < w23.heap.size := Nat.lt_of_lt_of_le (by assumption) hb23.size; have l23_t : w21.heap.size < w23.heap.size := Nat.lt_of_lt_of_le (by assumption) hb23.size; have lx23_bb2 : bb2 < w23.heap.size := Nat.lt_of_lt_of_le (by assumption) hb23.size))
                    have o23_r : ObjAt w23 (w1.heap.size) 40 [.int .i64 0, .int .i64 k0, .int .i64 0] := ObjAt.below (ObjAt.drew (H22_r.out)) hb23
                    have o23_iss2 : ObjAt w23 (w5.heap.size + 1 + 1) 90 [.pointer (some ⟨w5.heap.size + 1, 0, none⟩), .int .i64 (many + 1)] := ObjAt.below (ObjAt.drew (H22_iss2.out)) hb23
                    have o23_blk2 : ObjAt w23 (w5.heap.size + 1) 111 [.int .i64 n', .int .i64 m'] := ObjAt.below (ObjAt.drew (H22_blk2.out)) hb23
                    have o23_t : ObjAt w23 (w21.heap.size) 46 [.int .i64 0, .int .i64 n, .int .i64 u, .int .i64 tg] := ObjAt.below (ObjAt.drew (H22_t.out)) hb23
                    clear q22_r_0 q22_r_1 q22_r_2 H22_r q22_iss2_0 q22_iss2_1 H22_iss2 q22_blk2_0 q22_blk2_1 H22_blk2 q22_t_0 f22_t_0 q22_t_1 f22_t_1 q22_t_2 f22_t_2 q22_t_3 f22_t_3 H22_t
                    have q23_r_0 := o23_r.cell (i := 0) rfl
                    have q23_r_1 := o23_r.cell (i := 1) rfl
                    have q23_r_2 := o23_r.cell (i := 2) rfl
                    have H23_r := hide o23_r
                    clear o23_r
                    have q23_iss2_0 := o23_iss2.cell (i := 0) rfl
                    have q23_iss2_1 := o23_iss2.cell (i := 1) rfl
                    have H23_iss2 := hide o23_iss2
                    clear o23_iss2
                    have q23_blk2_0 := o23_blk2.cell (i := 0) rfl
                    have q23_blk2_1 := o23_blk2.cell (i := 1) rfl
                    have H23_blk2 := hide o23_blk2
                    clear o23_blk2
                    have q23_t_0 := o23_t.cell (i := 0) rfl
                    have f23_t_0 := o23_t.free 0
                    have q23_t_1 := o23_t.cell (i := 1) rfl
                    have f23_t_1 := o23_t.free 1
                    have q23_t_2 := o23_t.cell (i := 2) rfl
                    have f23_t_2 := o23_t.free 2
                    have q23_t_3 := o23_t.cell (i := 3) rfl
                    have f23_t_3 := o23_t.free 3
                    have H23_t := hide o23_t
                    clear o23_t
                    have hy23 : w.heap.size ≤ w23.heap.size := hB23.size
                    clear hb23 c23
                    go_wp2
                    go_roundw
                    case rel => exact ⟨j + 1, n', m', n, many + 1, by go_num, by omega, rfl, by omega, by omega, by omega, by omega, by omega, by omega, by omega, H23_r.out, H23_iss2.out, H23_blk2.out, by go_grown⟩
                    case measure => simp [intOf] <;> omega
                  ·
                    have hB21 : Below w.heap.size w w21 := by
                      refine Below.trans ?_ (Kept.below hk21 ?_ ?_)
                      · go_grown
                      · first | omega | (simp; done) | (simp; omega)
                      · intro x hx; simp at hx; omega
                    have o21_r : ObjAt w21 (w1.heap.size) 40 [.int .i64 0, .int .i64 k0, .int .i64 0] := Kept.obj hk21 (ObjAt.drew (ObjAt.alloc (O_r.out) _)) (by simp; omega)
                    have o21_iss2 : ObjAt w21 (w5.heap.size + 1 + 1) 90 [.pointer (some ⟨w5.heap.size + 1, 0, none⟩), .int .i64 (many + 1)] := hI21.1
                    have o21_blk2 : ObjAt w21 (w5.heap.size + 1) 111 [.int .i64 n', .int .i64 m'] := hI21.2.1
                    have o21_t : ObjAt w21 (wr.heap.size) 46 [.int .i64 0, .int .i64 0, .int .i64 0, .int .i64 0] := Kept.obj hk21 (ObjAt.drew (objNew (by simp))) (by simp; omega)
                    clear p_r_0 p_r_1 p_r_2 p_i_0 p_i_1 p_b_0 p_b_1 O_r O_i O_b
                    have q21_r_0 := o21_r.cell (i := 0) rfl
                    have q21_r_1 := o21_r.cell (i := 1) rfl
                    have q21_r_2 := o21_r.cell (i := 2) rfl
                    have l21_r := o21_r.lt
                    have H21_r := hide o21_r
                    clear o21_r
                    have q21_iss2_0 := o21_iss2.cell (i := 0) rfl
                    have q21_iss2_1 := o21_iss2.cell (i := 1) rfl
                    have l21_iss2 := o21_iss2.lt
                    have H21_iss2 := hide o21_iss2
                    clear o21_iss2
                    have q21_blk2_0 := o21_blk2.cell (i := 0) rfl
                    have q21_blk2_1 := o21_blk2.cell (i := 1) rfl
                    have l21_blk2 := o21_blk2.lt
                    have H21_blk2 := hide o21_blk2
                    clear o21_blk2
                    have q21_t_0 := o21_t.cell (i := 0) rfl
                    have f21_t_0 := o21_t.free 0
                    have q21_t_1 := o21_t.cell (i := 1) rfl
                    have f21_t_1 := o21_t.free 1
                    have q21_t_2 := o21_t.cell (i := 2) rfl
                    have f21_t_2 := o21_t.free 2
                    have q21_t_3 := o21_t.cell (i := 3) rfl
                    have f21_t_3 := o21_t.free 3
                    have l21_t := o21_t.lt
                    have H21_t := hide o21_t
                    clear o21_t
                    have hy21 : w.heap.size ≤ w21.heap.size := hB21.size
                    clear hk21
                    clear HS21 c21 d21 hs21
                    obtain ⟨w22, hW22⟩ : ∃ W : World, W = ((((w21.setCell ⟨wr.heap.size, 0, none⟩ (.int .i64 0)).setCell ⟨wr.heap.size, 1, none⟩ (.int .i64 n)).setCell ⟨wr.heap.size, 2, none⟩ (.int .i64 u)).setCell ⟨wr.heap.size, 3, none⟩ (.int .i64 tg)) := ⟨_, rfl⟩
                    have hB22 : Below w.heap.size w w22 := by rw [hW22]; go_grown
                    have o22_r : ObjAt w22 (w1.heap.size) 40 [.int .i64 0, .int .i64 k0, .int .i64 0] := by rw [hW22]; exact ObjAt.other4 (H21_r.out) (by omega)
                    have o22_iss2 : ObjAt w22 (w5.heap.size + 1 + 1) 90 [.pointer (some ⟨w5.heap.size + 1, 0, none⟩), .int .i64 (many + 1)] := by rw [hW22]; exact ObjAt.other4 (H21_iss2.out) (by omega)
                    have o22_blk2 : ObjAt w22 (w5.heap.size + 1) 111 [.int .i64 n', .int .i64 m'] := by rw [hW22]; exact ObjAt.other4 (H21_blk2.out) (by omega)
                    have o22_t : ObjAt w22 (wr.heap.size) 46 [.int .i64 0, .int .i64 n, .int .i64 u, .int .i64 tg] := by rw [hW22]; exact ObjAt.set4 (H21_t.out)
                    rw [← hW22]
                    clear hW22
                    clear q21_r_0 q21_r_1 q21_r_2 H21_r q21_iss2_0 q21_iss2_1 H21_iss2 q21_blk2_0 q21_blk2_1 H21_blk2 q21_t_0 f21_t_0 q21_t_1 f21_t_1 q21_t_2 f21_t_2 q21_t_3 f21_t_3 H21_t
                    have q22_r_0 := o22_r.cell (i := 0) rfl
                    have q22_r_1 := o22_r.cell (i := 1) rfl
                    have q22_r_2 := o22_r.cell (i := 2) rfl
                    have l22_r := o22_r.lt
                    have H22_r := hide o22_r
                    clear o22_r
                    have q22_iss2_0 := o22_iss2.cell (i := 0) rfl
                    have q22_iss2_1 := o22_iss2.cell (i := 1) rfl
                    have l22_iss2 := o22_iss2.lt
                    have H22_iss2 := hide o22_iss2
                    clear o22_iss2
                    have q22_blk2_0 := o22_blk2.cell (i := 0) rfl
                    have q22_blk2_1 := o22_blk2.cell (i := 1) rfl
                    have l22_blk2 := o22_blk2.lt
                    have H22_blk2 := hide o22_blk2
                    clear o22_blk2
                    have q22_t_0 := o22_t.cell (i := 0) rfl
                    have f22_t_0 := o22_t.free 0
                    have q22_t_1 := o22_t.cell (i := 1) rfl
                    have f22_t_1 := o22_t.free 1
                    have q22_t_2 := o22_t.cell (i := 2) rfl
                    have f22_t_2 := o22_t.free 2
                    have q22_t_3 := o22_t.cell (i := 3) rfl
                    have f22_t_3 := o22_t.free 3
                    have l22_t := o22_t.lt
                    have H22_t := hide o22_t
                    clear o22_t
                    have hy22 : w.heap.size ≤ w22.heap.size := hB22.size
                    have cu := CU.out _ hB22
                    have lu : bb2 < w22.heap.size := by omega
                    have tla : decide (n ≤ la) = false := decide_eq_false (by omega)
                    have tlu : (u != u) = false := by simp
                    go_wp2_with fail
                    go_region_held3 (fun w' => w'.cell? ⟨w1.heap.size, 0, none⟩ = some (.int .i64 0) ∧ w'.cell? ⟨w1.heap.size, 1, none⟩ = some (.int .i64 k0) ∧ w'.cell? ⟨w1.heap.size, 2, none⟩ = some (.int .i64 0) ∧ w'.cell? ⟨wr.heap.size, 0, none⟩ = some (.int .i64 0) ∧ w'.cell? ⟨wr.heap.size, 1, none⟩ = some (.int .i64 n) ∧ w'.cell? ⟨wr.heap.size, 2, none⟩ = some (.int .i64 u) ∧ w'.cell? ⟨wr.heap.size, 3, none⟩ = some (.int .i64 tg) ∧ w'.cell? ⟨bb2, bo + j, none⟩ = some (.int .i64 u)) (go_keep) (first
                      | (go_at_call 19; refine (CK.out _).mono ?_; rintro e w23 ⟨rfl, hb23⟩; have hB23 : Below w.heap.size w w23 := (by refine Below.trans ?_ (Below.mono hb23 ?_); (first | exact hB22.drew | go_grown); (first | omega | (simp; done) | (simp; omega))); have c23 : ∀ b o, b < w22.heap.size → w23.cell? ⟨b, o, none⟩ = w22.cell? ⟨b, o, none⟩ := (bcell hb23).1; have l23_r : w1.heap.size < w23.heap.size := Nat.lt_of_lt_of_le (by assumption) hb23.size; have l23_t : wr.heap.size < w23.heap.size := Nat.lt_of_lt_of_le (by assumption) hb23.size; have lx23_bb2 : bb2 < w23.heap.size := Nat.lt_of_lt_of_le (by assumption) hb23.size))
                    have o23_r : ObjAt w23 (w1.heap.size) 40 [.int .i64 0, .int .i64 k0, .int .i64 0] := ObjAt.below (ObjAt.drew (H22_r.out)) hb23
                    have o23_iss2 : ObjAt w23 (w5.heap.size + 1 + 1) 90 [.pointer (some ⟨w5.heap.size + 1, 0, none⟩), .int .i64 (many + 1)] := ObjAt.below (ObjAt.drew (H22_iss2.out)) hb23
                    have o23_blk2 : ObjAt w23 (w5.heap.size + 1) 111 [.int .i64 n', .int .i64 m'] := ObjAt.below (ObjAt.drew (H22_blk2.out)) hb23
                    have o23_t : ObjAt w23 (wr.heap.size) 46 [.int .i64 0, .int .i64 n, .int .i64 u, .int .i64 tg] := ObjAt.below (ObjAt.drew (H22_t.out)) hb23
                    clear q22_r_0 q22_r_1 q22_r_2 H22_r q22_iss2_0 q22_iss2_1 H22_iss2 q22_blk2_0 q22_blk2_1 H22_blk2 q22_t_0 f22_t_0 q22_t_1 f22_t_1 q22_t_2 f22_t_2 q22_t_3 f22_t_3 H22_t
                    have q23_r_0 := o23_r.cell (i := 0) rfl
                    have q23_r_1 := o23_r.cell (i := 1) rfl
                    have q23_r_2 := o23_r.cell (i := 2) rfl
                    have H23_r := hide o23_r
                    clear o23_r
                    have q23_iss2_0 := o23_iss2.cell (i := 0) rfl
                    have q23_iss2_1 := o23_iss2.cell (i := 1) rfl
                    have H23_iss2 := hide o23_iss2
                    clear o23_iss2
                    have q23_blk2_0 := o23_blk2.cell (i := 0) rfl
                    have q23_blk2_1 := o23_blk2.cell (i := 1) rfl
                    have H23_blk2 := hide o23_blk2
                    clear o23_blk2
                    have q23_t_0 := o23_t.cell (i := 0) rfl
                    have f23_t_0 := o23_t.free 0
                    have q23_t_1 := o23_t.cell (i := 1) rfl
                    have f23_t_1 := o23_t.free 1
                    have q23_t_2 := o23_t.cell (i := 2) rfl
                    have f23_t_2 := o23_t.free 2
                    have q23_t_3 := o23_t.cell (i := 3) rfl
                    have f23_t_3 := o23_t.free 3
                    have H23_t := hide o23_t
                    clear o23_t
                    have hy23 : w.heap.size ≤ w23.heap.size := hB23.size
                    clear hb23 c23
                    go_wp2
                    go_roundw
                    case rel => exact ⟨j + 1, n', m', n, many + 1, by go_num, by omega, rfl, by omega, by omega, by omega, by omega, by omega, by omega, by omega, H23_r.out, H23_iss2.out, H23_blk2.out, by go_grown⟩
                    case measure => simp [intOf] <;> omega
          · have h3' : 100 ≤ j := by omega
            go_wp2
            go_ret
            exact ⟨rfl, by go_grown⟩
        · have h2' : len2 ≤ j := by omega
          go_wp2
          go_ret
          exact ⟨rfl, by go_grown⟩
      · have h1' : len ≤ j := by omega
        go_wp2
        go_ret
        exact ⟨rfl, by go_grown⟩
end Go.Proofs.Ytmbklchoplgdlaa
