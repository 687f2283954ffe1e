/- LogKeeps: what the log does, over its state and the two rows; what is said of the fault. -/
import Derived.Test.YtjbpkmmpbhngbaaGreatDoorKeepsP
import Derived.Test.YtjbpkmmpbhngbaaGreatDoorRSpend
import Derived.Test.YtjbpkmmpbhngbaaGreatDoorRSpents
namespace Go.Proofs.YtjbpkmmpbhngbaaGreatDoor
open Go.RowKit

theorem kaSpend {w W : World} {b : Nat} {S : LS} {v dv mv : Value} {vs : List Value} {rd rm : List Rec} (n u now : Int) (t : Tabs w) (h : KA w W b S v dv mv vs rd rm) :
    Calls Tryz.prog 8 #[.pointer (some ⟨b, 0, none⟩), .int .i64 n, .int .i64 u, .int .i64 now] W fun e w' => ∃ v', e = .returned (errV (S.spend n u now).2) ∧ KA w w' b (S.spend n u now).1 v' dv mv vs rd rm ∧ Kept [b] W w' :=
  (lgsSpend h.ok n u now W (h.lw.tabs t).pw h.lg).mono fun _ _ ⟨v', e, h2, h3, h4⟩ => ⟨v', e, h.step (h.ok.spend n u now) h2 h3 h4, h4⟩
theorem kaSync {w W : World} {b : Nat} {S : LS} {v dv mv : Value} {vs : List Value} {rd rm : List Rec} (h : KA w W b S v dv mv vs rd rm) :
    Calls Tryz.prog 9 #[.pointer (some ⟨b, 0, none⟩)] W fun e w' => e = .returned (errV S.sync.2) ∧ KA w w' b S.sync.1 v dv mv vs rd rm :=
  (lgsSync h.ok W h.lg).mono fun _ _ ⟨e, h2, h4⟩ => ⟨e, h.step h.ok.sync h2 (.inl rfl) h4⟩
theorem kaFail {w W : World} {b : Nat} {S : LS} {v dv mv : Value} {vs : List Value} {rd rm : List Rec} {n : Int} (hn : (Lit.int .i64 n).wf = true) (hn2 : n ≤ 9223372036854775807) (h : KA w W b S v dv mv vs rd rm) :
    Calls Tryz.prog 14 #[.pointer (some ⟨b, 0, none⟩), .int .i64 n] W fun e w' => (∃ r, e = .returned r) ∧ KA w w' b (S.fail n) v dv mv vs rd rm :=
  (lgsFail hn W h.lg).mono fun _ _ ⟨e, h2, h4⟩ => ⟨e, h.step (h.ok.fail hn2) h2 (.inl rfl) h4⟩
theorem kaCrash {w W : World} {b : Nat} {S : LS} {v dv mv : Value} {vs : List Value} {rd rm : List Rec} {keep : Int} (hn : (Lit.int .i64 keep).wf = true) (t : Tabs w) (h : KA w W b S v dv mv vs rd rm) :
    Calls Tryz.prog 10 #[.pointer (some ⟨b, 0, none⟩), .int .i64 keep] W fun e w' => (∃ r, e = .returned r) ∧ ∃ v', KA w w' b (S.crash keep) v' dv mv vs rd rm :=
  (lgsCrash h.ok keep hn W (h.lw.tabs t).sp h.lg).mono fun _ _ ⟨e, v', h2, h3, h4⟩ => ⟨e, v', h.step (h.ok.crash keep) h2 (.inr h3) h4⟩
theorem kaAll {w W : World} {b : Nat} {S : LS} {v dv mv : Value} {vs : List Value} {rd rm : List Rec} (h : KA w W b S v dv mv vs rd rm) :
    Calls Tryz.prog 11 #[.pointer (some ⟨b, 0, none⟩)] W fun e w' => ∃ v', e = .returned v' ∧ PSl w' v' S.zs ∧ Below W.heap.size W w' := lgsAll W h.lg
/-- the reference's spend: its row lies apart -/
theorem kaR {w W : World} {b : Nat} {S : LS} {v dv mv x : Value} {vs : List Value} {rd rm : List Rec} {zs : List (Int × Int)} (n u now : Int) (h16 : zs.length ≤ 16) (h : KA w W b S v dv mv vs rd rm) (hx : XR W b dv mv x zs) :
    Calls Tryz.prog 15 #[x, .int .i64 n, .int .i64 u, .int .i64 now] W fun e w' => ∃ x' zs', e = .returned (.tuple #[x', .int .i64 (spMoreE zs n u now)]) ∧ XR w' b dv mv x' zs' ∧ (spMoreE zs n u now = 0 → zs' = spDrop zs now ++ [(n, u)]) ∧ Below W.heap.size W w' := by
  by_cases hc : spMoreE zs n u now = 0
  · rw [hc]
    refine (rSpend_ok h16 hc x W hx.ps).mono ?_
    rintro e w' ⟨x', rfl, hown, hb⟩
    have hl := spDrop_le zs now
    refine ⟨x', _, rfl, ⟨own_psl hown (by simp; omega), fun g hg => ?_⟩, fun _ => rfl, hb⟩
    rcases hown.2 with ⟨rfl, _⟩ | ⟨g', cap, cur, rfl, h3, h4, _⟩
    · simp [Value.ownBlock] at hg
    · simp [Value.ownBlock] at hg
      subst hg
      have a1 := h.lg.lt
      exact ⟨lt_of_block h4, by omega, fun e' => by have := (h.dn.lt _ e').2; omega, fun e' => by have := (h.mr.lt _ e').2; omega⟩
  · refine (rSpend_bad h16 rfl hc x W hx.ps).mono ?_
    rintro e w' ⟨rfl, hb⟩
    exact ⟨_, [], rfl, XR.nil _ _ _ _, fun h0 => absurd h0 hc, hb⟩
/-- the fault that is told -/
def toldE (S : LS) (n u now : Int) : Int := if spMoreE S.zs n u now = 0 ∧ 30 < S.rs.length + 1 then 4 else spMoreE S.zs n u now
theorem spend_told {S : LS} (h : S.ok) (n u now : Int) : (S.spend n u now).2 = 6 ∨ (S.spend n u now).2 = toldE S n u now := by
  have hl := h.len
  unfold LS.spend toldE
  split
  · exact .inl rfl
  · split
    · rename_i h2
      exact .inr (by rw [if_neg (fun h3 => h2 h3.1)])
    · rename_i h2
      have hm : spMoreE S.zs n u now = 0 := Classical.byContradiction h2
      split
      · exact .inr (by rw [if_pos ⟨hm, by omega⟩])
      · split
        · exact .inl rfl
        · exact .inr (by rw [if_neg (by omega), hm])
theorem spend_rs {S : LS} (h : S.ok) (n u now : Int) : ((S.spend n u now).2 = 0 ∧ (S.spend n u now).1.rs = S.rs ++ [⟨n, u, now⟩] ∧ spMoreE S.zs n u now = 0 ∧ S.bytes.length + 2 ≤ (S.spend n u now).1.bytes.length ∧ S.rs.length < 30 ∧ (S.spend n u now).1.tl = []) ∨
    ((S.spend n u now).2 ≠ 0 ∧ (S.spend n u now).1.rs = S.rs) := by
  have hl := h.len
  unfold LS.spend
  split
  · exact .inr ⟨by simp, rfl⟩
  · rename_i h1
    split
    · rename_i h2
      exact .inr ⟨h2, rfl⟩
    · rename_i h2
      have hm : spMoreE S.zs n u now = 0 := Classical.byContradiction h2
      split
      · exact .inr ⟨by simp, rfl⟩
      · split
        · exact .inr ⟨by simp, rfl⟩
        · have hst : S.st = false := by
            cases hs : S.st
            · rfl
            · exact absurd hs h1
          have ht := h.cut hst
          have hr : (Rec.mk n u now).ok := sp_nums hm
          have hrl := row_len hr
          refine .inl ⟨rfl, rfl, hm, ?_, by omega, ht⟩
          unfold LS.bytes
          simp only [catR_app, List.length_append, catR, List.length_nil]
          omega
theorem sync_cases (S : LS) : S.sync.1.rs = S.rs ∧ (S.sync.2 = 6 ∨ S.sync.2 = 0 ∧ S.sync.1.safe = (S.sync.1.bytes.length : Int)) := by
  unfold LS.sync
  split
  · exact ⟨rfl, .inl rfl⟩
  · split
    · exact ⟨rfl, .inl rfl⟩
    · exact ⟨rfl, .inr ⟨rfl, rfl⟩⟩
/-- the two rows, as cells -/
theorem KA.form {w W : World} {b : Nat} {S : LS} {v dv mv : Value} {vs : List Value} {rd rm : List Rec} (h : KA w W b S v dv mv vs rd rm) : ∃ gd cd gm cm, dv = .slice (some ⟨gd, 0, none⟩) vs.length cd ∧ mv = .slice (some ⟨gm, 0, none⟩) (marksR rm).length cm ∧ vs.length ≤ cd ∧ (marksR rm).length ≤ cm ∧ cd ≤ maxLen ∧ cm ≤ maxLen ∧
    w.heap.size ≤ gd ∧ w.heap.size ≤ gm ∧ (∀ i, i < vs.length → W.cell? ⟨gd, i, none⟩ = some (vs.getD i (.slice none 0 0))) ∧ (∀ i, i < (marksR rm).length → W.cell? ⟨gm, i, none⟩ = some (.int .i64 ((marksR rm).getD i 0))) := by
  have hl := h.len
  have hm := marksR_len rm
  rcases h.dn.2 with ⟨_, h1⟩ | ⟨gd, cd, cur, rfl, a1, a2, a3, a4, _⟩
  · omega
  · rcases h.mr.2 with ⟨_, h1⟩ | ⟨gm, cm, cur2, rfl, b1, b2, b3, b4, _⟩
    · omega
    · refine ⟨gd, cd, gm, cm, rfl, rfl, a3, b3, a4, b4, a1, b1, fun i hi => ?_, fun i hi => ?_⟩
      · rw [h.dn.cellAt i (by omega)]
        simp [List.getD, List.getElem?_eq_getElem hi]
      · have := (own_cells h.mr).2 i hi
        simpa using this
theorem KA.dcell {w W : World} {b gd n cd : Nat} {S : LS} {v mv : Value} {vs : List Value} {rd rm : List Rec} (h : KA w W b S v (.slice (some ⟨gd, 0, none⟩) n cd) mv vs rd rm) (hn : vs.length = n) {i : Nat} (hi : i < n) : W.cell? ⟨gd, i, none⟩ = some (vs.getD i (.slice none 0 0)) := by
  have hd := h.dn
  rw [hn] at hd
  rw [hd.cellAt i (by omega)]
  simp [List.getD, List.getElem?_eq_getElem (show i < vs.length by omega)]
theorem KA.mcell {w W : World} {b gm n cm : Nat} {S : LS} {v dv : Value} {vs : List Value} {rd rm : List Rec} (h : KA w W b S v dv (.slice (some ⟨gm, 0, none⟩) n cm) vs rd rm) (hn : (marksR rm).length = n) {i : Nat} (hi : i < n) : W.cell? ⟨gm, i, none⟩ = some (.int .i64 ((marksR rm).getD i 0)) := by
  have hd := h.mr
  rw [hn] at hd
  have := (own_cells hd).2 i hi
  simpa using this
end Go.Proofs.YtjbpkmmpbhngbaaGreatDoor
