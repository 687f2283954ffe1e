/- The walk of IssueFirst. -/
import Derived.Test.YthfnjgiaimhbiabIssue
import Derived.Test.YthfnjgiaimhbiabTicketNowWalk
namespace Go.Proofs.Ythfnjgiaimhbiab
open Go.RowKit
set_option maxHeartbeats 1000000 in
theorem walkIssueFirst (w : World) (e k o : Int) (_w0 : (Lit.int .i64 e).wf = true) (_w1 : (Lit.int .i64 k).wf = true) (_w2 : (Lit.int .i64 o).wf = true) (u : Int) (_wu : (Lit.int .i64 u).wf = true) :
    Calls Try.prog 9 #[.agg #[.int .i64 e, .int .i64 k, .int .i64 o], .int .i64 u] w fun r w' => r = .returned (.bool true) ∧ Below w.heap.size w w' := by
  rcases tkmE_cases e k o 0 u with ⟨_, hr, hn, hu⟩ | hm
  · have hub := tmB_true.1 hu
    have c1 : tickE e k o e 0 u (tagOf k [2, 0, u]) u = 0 := by rw [tickE_made hr hn hu hub.1 hub.2, if_neg (by omega)]
    obtain ⟨g, hg⟩ : ∃ g, g = tagOf k [2, 0, u] := ⟨_, rfl⟩
    have I1 : Hid (∀ b bb W, IssAt W b bb 0 0 0 → Calls Try.prog 26 #[.pointer (some ⟨b, 0, none⟩), .agg #[.int .i64 e, .int .i64 k, .int .i64 o], .int .i64 u] W fun r w' => r = .returned (.tuple #[.agg #[.int .i64 e, .int .i64 0, .int .i64 u, .int .i64 g], .nilIface]) ∧ IssAt w' b bb 1 8 1 ∧ Kept [b, bb] W w') := by
      intro b bb W h; rw [hg]; exact issue_ok b bb e k o u 0 0 0 1 8 0 W h hr hu (by omega) (by omega) (by omega) (by decide) (by omega)
    have I2 : Hid (∀ b bb W, IssAt W b bb 1 8 1 → Calls Try.prog 26 #[.pointer (some ⟨b, 0, none⟩), .agg #[.int .i64 e, .int .i64 k, .int .i64 o], .int .i64 u] W fun r w' => r = .returned (.tuple #[.agg #[.int .i64 e, .int .i64 1, .int .i64 u, .int .i64 (tagOf k [2, 1, u])], .nilIface]) ∧ IssAt w' b bb 2 8 2 ∧ Kept [b, bb] W w') := by
      intro b bb W h; exact issue_ok b bb e k o u 1 8 1 2 8 1 W h hr hu (by omega) (by omega) (by omega) (by decide) (by omega)
    rw [← hg] at c1
    have C1 : Hid (∀ W, Calls Try.prog 18 #[.agg #[.int .i64 e, .int .i64 k, .int .i64 o], .agg #[.int .i64 e, .int .i64 0, .int .i64 u, .int .i64 g], .int .i64 u] W fun r w' => r = .returned .nilIface ∧ Below W.heap.size W w') := ticketCheck_eq c1
    clear hr hn hu hub c1 hg
    go_enter Try.func9, Try.ntmps9
    go_wp2_with fail
    refine (issueNew _).mono ?_
    rintro e1 w1 ⟨rfl, hI, hb1⟩
    have hB1 := bel_a1 hb1
    have hI1 : IssAt w1 (w.heap.size + 1 + 1) (w.heap.size + 1) 0 0 0 := by simpa using hI
    have r1 : ObjAt w1 w.heap.size 40 [.int .i64 e, .int .i64 k, .int .i64 o] := ObjAt.below (ObjAt.new _ _ _) hb1
    have hz1 : w.heap.size + 1 + 1 < w1.heap.size := ObjAt.lt hI1.1
    have q0 := r1.cell (i := 0) rfl
    have q1 := r1.cell (i := 1) rfl
    have q2 := r1.cell (i := 2) rfl
    have HI1 := hide hI1
    have R1 := hide r1
    clear hI hb1 hI1 r1
    go_wp2_with fail
    refine (I1.out _ _ _ HI1.out).mono ?_
    rintro e2 w2 ⟨rfl, hI2, hk2⟩
    have hB2 := hB1.trans (hk2.below (B := w.heap.size) hB1.size (by simp; omega))
    have hz2 : w.heap.size + 1 + 1 < w2.heap.size := ObjAt.lt hI2.1
    have hw2 : w.heap.size < w2.heap.size := by omega
    have r2 := hk2.obj R1.out (by simp; omega)
    have p0 := r2.cell (i := 0) rfl
    have p1 := r2.cell (i := 1) rfl
    have p2 := r2.cell (i := 2) rfl
    have HI2 := hide hI2
    have R2 := hide r2
    clear hk2 hI2 r2 R1 HI1 q0 q1 q2
    go_wp2_with fail
    refine (I2.out _ _ _ ⟨ObjAt.alloc HI2.out.1 _, ObjAt.alloc HI2.out.2.1 _, HI2.out.2.2⟩).mono ?_
    rintro e3 w3 ⟨rfl, hI3, hk3⟩
    have hz3 : w2.heap.size < w3.heap.size := by have := hk3.size; simp at this; omega
    have hB3 := (hB2.alloc hB2.size (.cells #[.int .i64 e, .int .i64 0, .int .i64 u, .int .i64 g] 42)).trans (hk3.below (B := w.heap.size) (by simp; omega) (by simp; omega))
    have t3 : ObjAt w3 w2.heap.size 42 [.int .i64 e, .int .i64 0, .int .i64 u, .int .i64 g] := hk3.obj (ObjAt.new _ _ _) (by simp; omega)
    have r3 := hk3.obj (ObjAt.alloc R2.out _) (by simp; omega)
    have q0 := r3.cell (i := 0) rfl
    have q1 := r3.cell (i := 1) rfl
    have q2 := r3.cell (i := 2) rfl
    have x0 := t3.cell (i := 0) rfl
    have x1 := t3.cell (i := 1) rfl
    have x2 := t3.cell (i := 2) rfl
    have x3 := t3.cell (i := 3) rfl
    have hzz : w.heap.size < w3.heap.size := by omega
    have HI3 := hide hI3
    clear hk3 hI3 r3 t3 R2 HI2 p0 p1 p2
    go_wp2_with fail
    refine (issueMany _ _ _ _ _ _ ⟨ObjAt.alloc HI3.out.1 _, ObjAt.alloc HI3.out.2.1 _, HI3.out.2.2⟩).mono ?_
    rintro e4 w4 ⟨rfl, rfl⟩
    go_wp2_with fail
    refine (C1.out _).mono ?_
    rintro e5 w5 ⟨rfl, hb5⟩
    have hB5 : Below w.heap.size w w5 := (hB3.alloc hB3.size _).trans (hb5.mono (by simp; omega))
    go_wp2
    go_ret
    exact ⟨rfl, hB5⟩
  · obtain ⟨c, hc⟩ : ∃ c, tkmE e k o 0 u = c := ⟨_, rfl⟩
    rw [hc] at hm
    have I1 := hide (fun b W => issue_bad b e k o u c W hc hm)
    have t1 : (c != 0) = true := bne_iff_ne.2 hm
    clear hc hm
    go_enter Try.func9, Try.ntmps9
    go_wp2_with fail
    refine (issueNew _).mono ?_
    rintro e1 w1 ⟨rfl, hI, hb1⟩
    have hB1 := bel_a1 hb1
    have hI1 : IssAt w1 (w.heap.size + 1 + 1) (w.heap.size + 1) 0 0 0 := by simpa using hI
    have r1 : ObjAt w1 w.heap.size 40 [.int .i64 e, .int .i64 k, .int .i64 o] := ObjAt.below (ObjAt.new _ _ _) hb1
    have q0 := r1.cell (i := 0) rfl
    have q1 := r1.cell (i := 1) rfl
    have q2 := r1.cell (i := 2) rfl
    have HI1 := hide hI1
    clear hI hb1 hI1 r1
    go_wp2_with fail
    refine (I1.out _ _).mono ?_
    rintro e2 w2 ⟨rfl, hb2⟩
    have hB2 := hB1.trans (hb2.mono hB1.size)
    have HI2 := hide (IssAt.below HI1.out hb2)
    clear HI1
    go_wp2_with fail
    refine (issueMany _ _ _ _ _ _ ⟨ObjAt.alloc HI2.out.1 _, ObjAt.alloc HI2.out.2.1 _, HI2.out.2.2⟩).mono ?_
    rintro e4 w4 ⟨rfl, rfl⟩
    go_wp2
    go_ret
    exact ⟨rfl, hB2.alloc hB2.size _⟩
end Go.Proofs.Ythfnjgiaimhbiab
