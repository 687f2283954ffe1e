/- log: its functions within a caller that has no other memory: all lies above what lay when the caller began. -/
import Derived.Test.YtjbpkmmpbhngbaaGreatDoorLog5
import Derived.Test.YtjbpkmmpbhngbaaGreatDoorErr
namespace Go.Proofs.YtjbpkmmpbhngbaaGreatDoor
open Go.RowKit

/-- a log at b in W; of what lay in w nothing has turned -/
def LW (w W : World) (b : Nat) (s : LS) : Prop := (∃ v, LgS W b v s) ∧ Below w.heap.size w W ∧ w.heap.size ≤ b
/-- the tables, and the errors' type -/
structure Tabs (w : World) : Prop where
  pw : TabW w
  sp : SpaW w
  er : ErrT w
theorem LW.below {w W W' : World} {b : Nat} {s : LS} (h : LW w W b s) (hb : Below W.heap.size W W') : LW w W' b s := by
  obtain ⟨⟨v, h1⟩, h2, h3⟩ := h
  exact ⟨⟨v, h1.below hb⟩, h2.trans (hb.mono h2.size), h3⟩
theorem LW.drewN {w W : World} {b : Nat} {s : LS} (h : LW w W b s) (n : Nat) : LW w (W.drewN n) b s := h.below (bel_drewN (Below.refl _ _) n)
theorem LW.kept {w W W' : World} {b : Nat} {v : Value} {s s' : LS} (h : LW w W b s) (h' : LgS W' b v s') (hk : Kept [b] W W') : LW w W' b s' :=
  ⟨⟨v, h'⟩, bel_kept1 h.2.1 hk h.2.2 h.2.1.size, h.2.2⟩
theorem LW.tabs {w W : World} {b : Nat} {s : LS} (h : LW w W b s) (t : Tabs w) : Tabs W := ⟨t.pw.next h.2.1, t.sp.next h.2.1, t.er.below h.2.1 t.er.pos⟩
theorem lwNew (w : World) : Calls Tryz.prog 7 #[] w fun e w' => ∃ b, e = .returned (.pointer (some ⟨b, 0, none⟩)) ∧ LW w w' b lsNew :=
  (lgsNew w).mono fun _ _ ⟨b, h1, h2, h3, h4⟩ => ⟨b, h1, ⟨_, h3⟩, h4, h2⟩
theorem lwSpend {s : LS} (hs : s.ok) (n u now : Int) {b : Nat} {w W : World} (t : Tabs w) (h : LW w W b s) :
    Calls Tryz.prog 8 #[.pointer (some ⟨b, 0, none⟩), .int .i64 n, .int .i64 u, .int .i64 now] W fun e w' => e = .returned (errV (s.spend n u now).2) ∧ LW w w' b (s.spend n u now).1 := by
  obtain ⟨v, h1⟩ := h.1
  exact (lgsSpend hs n u now W (h.tabs t).pw h1).mono fun _ _ ⟨_, e, h2, _, h3⟩ => ⟨e, h.kept h2 h3⟩
theorem lwSync {s : LS} (hs : s.ok) {b : Nat} {w W : World} (h : LW w W b s) :
    Calls Tryz.prog 9 #[.pointer (some ⟨b, 0, none⟩)] W fun e w' => e = .returned (errV s.sync.2) ∧ LW w w' b s.sync.1 := by
  obtain ⟨v, h1⟩ := h.1
  exact (lgsSync hs W h1).mono fun _ _ ⟨e, h2, h3⟩ => ⟨e, h.kept h2 h3⟩
theorem lwFail {s : LS} {n : Int} (hn : (Lit.int .i64 n).wf = true) {b : Nat} {w W : World} (h : LW w W b s) :
    Calls Tryz.prog 14 #[.pointer (some ⟨b, 0, none⟩), .int .i64 n] W fun e w' => (∃ r, e = .returned r) ∧ LW w w' b (s.fail n) := by
  obtain ⟨v, h1⟩ := h.1
  exact (lgsFail hn W h1).mono fun _ _ ⟨e, h2, h3⟩ => ⟨e, h.kept h2 h3⟩
theorem lwCrash {s : LS} (hs : s.ok) (keep : Int) (hn : (Lit.int .i64 keep).wf = true) {b : Nat} {w W : World} (t : Tabs w) (h : LW w W b s) :
    Calls Tryz.prog 10 #[.pointer (some ⟨b, 0, none⟩), .int .i64 keep] W fun e w' => (∃ r, e = .returned r) ∧ LW w w' b (s.crash keep) := by
  obtain ⟨v, h1⟩ := h.1
  exact (lgsCrash hs keep hn W (h.tabs t).sp h1).mono fun _ _ ⟨e, _, h2, _, h3⟩ => ⟨e, h.kept h2 h3⟩
theorem lwAll {s : LS} {b : Nat} {w W : World} (h : LW w W b s) :
    Calls Tryz.prog 11 #[.pointer (some ⟨b, 0, none⟩)] W fun e w' => ∃ v', e = .returned v' ∧ PSl w' v' s.zs ∧ LW w w' b s := by
  obtain ⟨v, h1⟩ := h.1
  exact (lgsAll W h1).mono fun _ _ ⟨v', e, h2, h3⟩ => ⟨v', e, h2, h.below h3⟩
theorem lwBytes {s : LS} {b : Nat} {w W : World} (h : LW w W b s) :
    Calls Tryz.prog 12 #[.pointer (some ⟨b, 0, none⟩)] W fun e w' => e = .returned (.int .i64 (s.bytes.length : Int)) ∧ W = w' := by
  obtain ⟨v, h1⟩ := h.1
  exact lgsBytes W h1
theorem lwSafe {s : LS} {b : Nat} {w W : World} (h : LW w W b s) :
    Calls Tryz.prog 13 #[.pointer (some ⟨b, 0, none⟩)] W fun e w' => e = .returned (.int .i64 s.safe) ∧ W = w' := by
  obtain ⟨v, h1⟩ := h.1
  exact lgsSafe W h1
theorem lwErr (c n : Int) {s : LS} {b : Nat} {w W : World} (t : Tabs w) (h : LW w W b s) :
    Calls Tryz.prog 16 #[errV c, .int .i64 n] W fun e w' => e = .returned (.bool (c == n)) ∧ LW w w' b s :=
  (error_any c n W (h.tabs t).er).mono fun _ _ ⟨e, h2⟩ => ⟨e, h.below h2⟩
end Go.Proofs.YtjbpkmmpbhngbaaGreatDoor
