/- The walk of QueuePlays. -/
import Derived.Test.YtfehnfbmlomccaaDoorQDrop
import Derived.Test.YtfehnfbmlomccaaDoorRQueue
import Derived.Test.YtfehnfbmlomccaaDoorOpen
import Derived.Test.YtfehnfbmlomccaaDoorErr
import Derived.BigQuiet
namespace Go.Proofs.YtfehnfbmlomccaaDoor
open Go.RowKit

/-- the row of v' is that of v, is none, or is new -/
def rowTo (w : World) (v v' : Value) : Prop := v'.ownBlock = v.ownBlock ∨ v'.ownBlock = none ∨ ∃ g, v'.ownBlock = some g ∧ w.heap.size ≤ g
theorem rowOf.to {w : World} {v v' : Value} (h : rowOf w v v') : rowTo w v v' := h.imp id .inr
/-- two queues apart from each other -/
structure Two (T1 T2 : TypeId) (w : World) (B b1 : Nat) (v1 : Value) (z1 : List (Int × Int)) (b2 : Nat) (v2 : Value) (z2 : List (Int × Int)) : Prop where
  q1 : QAt T1 w b1 v1 z1
  q2 : QAt T2 w b2 v2 z2
  ne : b1 ≠ b2
  h1 : B ≤ b1
  h2 : B ≤ b2
  s1 : ∀ g, v1.ownBlock = some g → g ≠ b2 ∧ v2.ownBlock ≠ some g ∧ B ≤ g
  s2 : ∀ g, v2.ownBlock = some g → g ≠ b1 ∧ B ≤ g
theorem Two.below {T1 T2 : TypeId} {w w' : World} {B b1 b2 : Nat} {v1 v2 : Value} {z1 z2 : List (Int × Int)} (h : Two T1 T2 w B b1 v1 z1 b2 v2 z2) (hb : Below w.heap.size w w') : Two T1 T2 w' B b1 v1 z1 b2 v2 z2 :=
  { h with q1 := h.q1.below hb, q2 := h.q2.below hb }
theorem Two.swap {T1 T2 : TypeId} {w : World} {B b1 b2 : Nat} {v1 v2 : Value} {z1 z2 : List (Int × Int)} (h : Two T1 T2 w B b1 v1 z1 b2 v2 z2) : Two T2 T1 w B b2 v2 z2 b1 v1 z1 :=
  { q1 := h.q2, q2 := h.q1, ne := Ne.symm h.ne, h1 := h.h2, h2 := h.h1, s1 := fun g hg => ⟨(h.s2 g hg).1, fun e => (h.s1 g e).2.1 hg, (h.s2 g hg).2⟩, s2 := fun g hg => ⟨(h.s1 g hg).1, (h.s1 g hg).2.2⟩ }
theorem Two.first {T1 T2 : TypeId} {w w' : World} {B b1 b2 : Nat} {v1 v1' v2 : Value} {z1 z1' z2 : List (Int × Int)} (h : Two T1 T2 w B b1 v1 z1 b2 v2 z2) (hB : B ≤ w.heap.size) (hq : QAt T1 w' b1 v1' z1') (hr : rowTo w v1 v1') (hk : Kept (qS b1 v1) w w') : Two T1 T2 w' B b1 v1' z1' b2 v2 z2 := by
  have hb2 := h.q2.1.lt
  refine { q1 := hq, q2 := h.q2.kept hk (fun hm => ?_) (fun g hg hm => ?_), ne := h.ne, h1 := h.h1, h2 := h.h2, s1 := fun g hg => ?_, s2 := h.s2 }
  · rcases mem_qS.1 hm with e | e
    · exact h.ne e.symm
    · exact (h.s1 _ e).1 rfl
  · rcases mem_qS.1 hm with e | e
    · exact (h.s2 g hg).1 e
    · exact (h.s1 _ e).2.1 hg
  · rcases hr with e | e | ⟨g', e, hge⟩
    · exact h.s1 g (by rw [← e]; exact hg)
    · rw [e] at hg; cases hg
    · rw [e] at hg
      obtain rfl := Option.some.inj hg
      exact ⟨by omega, fun e2 => by have := h.q2.2.1.lt _ e2; omega, by omega⟩
theorem Two.second {T1 T2 : TypeId} {w w' : World} {B b1 b2 : Nat} {v1 v2 v2' : Value} {z1 z2 z2' : List (Int × Int)} (h : Two T1 T2 w B b1 v1 z1 b2 v2 z2) (hB : B ≤ w.heap.size) (hq : QAt T2 w' b2 v2' z2') (hr : rowTo w v2 v2') (hk : Kept (qS b2 v2) w w') : Two T1 T2 w' B b1 v1 z1 b2 v2' z2' :=
  (h.swap.first hB hq hr hk).swap
theorem Two.bel1 {T1 T2 : TypeId} {a w w' : World} {B b1 b2 : Nat} {v1 v2 : Value} {z1 z2 : List (Int × Int)} (h : Two T1 T2 w B b1 v1 z1 b2 v2 z2) (ha : Below B a w) (hB : B ≤ w.heap.size) (hk : Kept (qS b1 v1) w w') : Below B a w' :=
  ha.trans (hk.below hB (fun x hx => by
    rcases mem_qS.1 hx with rfl | hx
    · exact h.h1
    · exact (h.s1 x hx).2.2))
theorem Two.bel2 {T1 T2 : TypeId} {a w w' : World} {B b1 b2 : Nat} {v1 v2 : Value} {z1 z2 : List (Int × Int)} (h : Two T1 T2 w B b1 v1 z1 b2 v2 z2) (ha : Below B a w) (hB : B ≤ w.heap.size) (hk : Kept (qS b2 v2) w w') : Below B a w' := h.swap.bel1 ha hB hk
theorem kept_qS {b : Nat} {w w' : World} (v : Value) (h : Kept [b] w w') : Kept (qS b v) w w' := h.mono (fun x hx => by simp at hx; exact mem_qS.2 (Or.inl hx))
/-- an object that no queue's operation touches -/
theorem kept_other {T : TypeId} {b X : Nat} {w w' : World} {v : Value} {cs : List Value} (hk : Kept (qS b v) w w') (ho : ObjAt w X T cs) (h1 : X ≠ b) (h2 : v.ownBlock ≠ some X) : ObjAt w' X T cs :=
  hk.obj ho (fun hm => by
    rcases mem_qS.1 hm with e | e
    · exact h1 e
    · exact h2 e)
theorem offer_len9 {zs : List (Int × Int)} {s n : Int} (h : offE zs s n = 0) : (zs ++ [(s, n)]).length ≤ 8 := by
  unfold offE at h
  split at h
  · exact absurd h (by decide)
  · split at h
    · exact absurd h (by decide)
    · split at h
      · exact absurd h (by decide)
      · simp; omega
theorem erase_len {zs : List (Int × Int)} {i : Nat} (h : zs.length ≤ 8) : (zs.eraseIdx i).length ≤ 8 := Nat.le_trans (List.length_eraseIdx_le _ _) h
set_option maxRecDepth 100000 in
set_option maxHeartbeats 32000000 in
theorem walkQueuePlays (w : World) (a : Option Addr) (len cap : Nat) (dd : List Int) (_hl : len ≤ cap) (_hc : cap ≤ maxLen) (hr : IntRow w a len dd) (a2 : Option Addr) (len2 cap2 : Nat) (zz : List (Int × Int)) (_hl2 : len2 ≤ cap2) (_hc2 : cap2 ≤ maxLen) (hr2 : PairRow w a2 len2 zz) (hE : ErrT w) :
    Calls Tryd.prog 5 #[.slice a len cap, .slice a2 len2 cap2] w fun e w' => e = .returned (.bool true) ∧ Below w.heap.size w w' := by
  have hm : len ≤ maxLen := hr.2.1
  have hm2 : len2 ≤ maxLen := hr2.2.1
  unfold maxLen at hm hm2
  have hw0 := hE.pos
  have HR := hide hr.split
  have HR2 : Hid (len2 = 0 ∨ ∃ b off, a2 = some ⟨b, off, none⟩ ∧ b < w.heap.size ∧ ∀ j, j < len2 → w.cell? ⟨b, off + j * 2, none⟩ = some (.int .i64 (zz.getD j (0, 0)).1) ∧ w.cell? ⟨b, off + j * 2 + 1, none⟩ = some (.int .i64 (zz.getD j (0, 0)).2)) := by
    rcases hr2.2.2.2 with h | ⟨b, off, rfl, hlt, hcell⟩
    · exact .inl h
    · refine .inr ⟨b, off, rfl, hlt, fun j hj => ?_⟩
      have q0 := hcell j 0 hj (by decide)
      have q1 := hcell j 1 hj (by decide)
      exact ⟨by simpa using q0, by simpa using q1⟩
  clear hr _hl _hc hr2 _hl2 _hc2
  go_enter Tryd.func5, Tryd.ntmps5
  go_wp2_with fail
  refine (qNew _).mono ?_
  rintro e w1 ⟨rfl, hq1, hB1⟩
  have hT : Two 74 39 (w1.alloc (.cells #[.slice none 0 0] 39)) w.heap.size w.heap.size (.slice none 0 0) [] w1.heap.size (.slice none 0 0) [] :=
    { q1 := hq1.below ((Below.refl _ _).alloc (Nat.le_refl _) _), q2 := ⟨ObjAt.new _ _ _, QRow.nil _, by simp [Value.ownBlock]⟩, ne := by have := hq1.1.lt; omega, h1 := Nat.le_refl _, h2 := hB1.size, s1 := fun g hg => by simp [Value.ownBlock] at hg, s2 := fun g hg => by simp [Value.ownBlock] at hg }
  have HT0 := hide hT
  have HB0 := hide (hB1.alloc hB1.size (.cells #[.slice none 0 0] 39))
  obtain ⟨b2, hb2⟩ : ∃ b2, b2 = w1.heap.size := ⟨_, rfl⟩
  have HT1 : Hid (Two 74 39 (w1.alloc (.cells #[.slice none 0 0] 39)) w.heap.size w.heap.size (.slice none 0 0) [] b2 (.slice none 0 0) []) := by rw [hb2]; exact hT
  clear hq1 hT
  go_wp2_with fail
  rw [← hb2]
  go_loopw [7] (fun i wr => ∃ (k : Nat) (v1 v2 : Value) (zs : List (Int × Int)), i = .int .i64 k ∧ k ≤ len ∧ k ≤ len2 ∧ k ≤ 100 ∧ zs.length ≤ 8 ∧ Two 74 39 wr w.heap.size w.heap.size v1 zs b2 v2 zs ∧ Below w.heap.size w wr) (fun i _ => 200 - (intOf i).toNat)
  case atStart => exact ⟨0, _, _, [], rfl, by omega, by omega, by omega, by simp, HT1.out, HB0.out⟩
  case round =>
    clear HT0 HT1 HB0 hB1 hb2
    obtain ⟨k, v1, v2, zs, rfl, hk, hk2, hk3, hz8, hT, hb9⟩ := hrel
    obtain ⟨w9, rfl⟩ : ∃ x, x = wr := ⟨wr, rfl⟩
    have HT := hide hT
    have z1 := hT.q1.1.lt
    have z2 := hT.q2.1.lt
    clear hT
    by_cases h1 : k < len
    · by_cases h2 : k < len2
      · by_cases h3 : k < 100
        ·
          obtain ⟨bd, offd, rfl, hltd, qd⟩ : ∃ bd offd, a = some ⟨bd, offd, none⟩ ∧ bd < w.heap.size ∧ w.cell? ⟨bd, offd + k, none⟩ = some (.int .i64 (dd.getD k 0)) := by
            rcases HR.out with h | ⟨b, off, h4, h5, _, _, h6⟩
            · omega
            · exact ⟨b, off, h4, h5, h6 k h1⟩
          obtain ⟨bl, offl, rfl, hltl, ql0, ql1⟩ : ∃ bl offl, a2 = some ⟨bl, offl, none⟩ ∧ bl < w.heap.size ∧ w.cell? ⟨bl, offl + k * 2, none⟩ = some (.int .i64 (zz.getD k (0, 0)).1) ∧ w.cell? ⟨bl, offl + k * 2 + 1, none⟩ = some (.int .i64 (zz.getD k (0, 0)).2) := by
            rcases HR2.out with h | ⟨b, off, h4, h5, h6⟩
            · omega
            · exact ⟨b, off, h4, h5, h6 k h2⟩
          generalize dd.getD k 0 = d at qd
          generalize zz.getD k (0, 0) = x at ql0 ql1
          obtain ⟨s, n⟩ := x
          simp only at ql0 ql1
          have rd := (hb9.cell (p := ⟨bd, offd + k, none⟩) hltd).trans qd
          have HSl : Hid (∀ w' : World, Below w.heap.size w w' → w'.cell? ⟨bl, offl + k * 2, none⟩ = some (.int .i64 s) ∧ w'.cell? ⟨bl, offl + k * 2 + 1, none⟩ = some (.int .i64 n)) :=
            fun w' hB => ⟨(hB.cell (p := ⟨bl, offl + k * 2, none⟩) hltl).trans ql0, (hB.cell (p := ⟨bl, offl + k * 2 + 1, none⟩) hltl).trans ql1⟩
          clear ql0 ql1 qd
          have hsz := hb9.size
          have hsl : bl < w9.heap.size := by omega
          by_cases hd0 : d = 0
          ·
            subst hd0
            match zs, hz8, HT with
            | [], hz8, HT =>
              have HTX := hide (HT.out.below ((Below.refl _ _).alloc (Nat.le_refl _) (.cells #[.int .i64 0, .int .i64 0] 29)))
              have hBX : Below w.heap.size w (w9.alloc (.cells #[.int .i64 0, .int .i64 0] 29)) := hb9.alloc hsz _
              have HOX := hide (ObjAt.new w9 29 [.int .i64 0, .int .i64 0])
              obtain ⟨a4, c4, hf4⟩ := qrow_form HT.out.q2.2.1
              have m4 := HT.out.q2.1.cell (i := 0) rfl
              subst hf4
              simp only [List.length_nil] at m4
              have PN := hide (qPull_none _ _ _ HTX.out.q1)
              go_wp2_with fail
              refine PN.out.mono ?_
              rintro e w10 ⟨rfl, hb10⟩
              have hB10 : Below w.heap.size w w10 := hBX.trans (hb10.mono hBX.size)
              have HT10 := hide (HTX.out.below hb10)
              have HO10 := hide (HOX.out.below hb10)
              have y10 := HO10.out.lt
              have HT11 := hide (HT10.out.below ((Below.refl _ _).alloc (Nat.le_refl _) (.cells #[.int .i64 0, .int .i64 0] 29)))
              have hB11 : Below w.heap.size w (w10.alloc (.cells #[.int .i64 0, .int .i64 0] 29)) := hB10.alloc hB10.size _
              have HOY := hide (ObjAt.new w10 29 [.int .i64 0, .int .i64 0])
              have HO11 := hide (HO10.out.alloc (.cells #[.int .i64 0, .int .i64 0] 29))
              clear hb10 PN HTX HT10 HOX HT HO10 m4
              go_wp2_with fail
              refine (error_any 5 5 _ (hE.below (B := w.heap.size) hB11 hE.pos)).mono ?_
              rintro e w12 ⟨rfl, hb12⟩
              have hB12 : Below w.heap.size w w12 := hB11.trans (hb12.mono hB11.size)
              have HT12 := hide (HT11.out.below hb12)
              have HOY2 := hide (HOY.out.below hb12)
              have HO12 := hide (HO11.out.below hb12)
              have e0 := HOY2.out.cell (i := 0) rfl
              have e1 := HOY2.out.cell (i := 1) rfl
              have f0 := HO12.out.cell (i := 0) rfl
              have f1 := HO12.out.cell (i := 1) rfl
              clear hb12 HT11 HOY HO11 hB11 hB10 hBX
              have HSm : Hid (∀ w' : World, Below w12.heap.size w12 w' → w'.cell? ⟨b2, 0, none⟩ = some (.slice a4 0 c4)) := fun w' hB => (hB.cell (p := ⟨b2, 0, none⟩) HT12.out.q2.1.lt).trans (HT12.out.q2.1.cell (i := 0) rfl)
              have AL := hide (fun W (hW : Below w12.heap.size w12 W) => qAll _ _ _ W (HT12.out.below hW).q1)
              have PM := hide (fun W (hW : Below w12.heap.size w12 W) => (HT12.out.below hW).q2.2.1.psl)
              have hrr := Below.refl w12.heap.size w12
              have hm3 := HSm.out _ hrr
              have hm4 := HT12.out.q2.1.lt
              go_wp2_with fail
              go_region_held3 (fun w' => w'.cell? ⟨b2, 0, none⟩ = some (.slice a4 0 c4)) (first | exact HSm.out _ (by assumption) | (refine HSm.out _ ?_; go_grown) | go_keep)
                (first
                  | (go_at_call 14; refine (AL.out _ (by go_grown)).mono ?_; rintro e5 wa ⟨va, rfl, hpa, hba⟩; have hwa : Below w12.heap.size w12 wa := Below.trans (by go_grown) (Below.mono hba (by first | omega | (simp; done) | (simp; omega))); have hsa := hba.size; (try simp at hsa); obtain ⟨ca, da⟩ := bcell hba)
                  | (go_at_call 20; refine (sameConns _ (hpa.below (by go_grown)) (PM.out _ (Below.trans hwa (Below.mono (by go_grown : Below wa.heap.size wa _) hwa.size)))).mono ?_; rintro e6 wb ⟨rfl, hbb⟩; have hwb : Below w12.heap.size w12 wb := Below.trans (Below.trans hwa (Below.mono (by go_grown : Below wa.heap.size wa _) hwa.size)) (Below.mono hbb (by have := hwa.size; first | omega | (simp; done) | (simp; omega))); have hsb := hbb.size; (try simp at hsb); obtain ⟨cb, db⟩ := bcell hbb))
              have HTZ := hide (HT12.out.below hwb)
              have HBZ := hide (hB12.trans (hwb.mono hB12.size))
              clear hrr hm3 hm4 hba hpa hbb ca da cb db hsa hsb hwa hwb AL PM HSm
              go_wp2
              go_roundw
              case rel => exact ⟨k + 1, v1, .slice a4 0 c4, [], by go_num, by omega, by omega, by omega, by simp, HTZ.out, HBZ.out⟩
              case measure => simp [intOf] <;> omega
            | y :: l, hz8, HT =>
              obtain ⟨y1, y2⟩ := y
              have hl8 : l.length ≤ 8 := by simp at hz8; omega
              obtain ⟨g4, off4, cap4, hf4, c41, c42, c43, c44, c45, _, _⟩ := qrow_cons HT.out.q2.2.1
              have m4 := HT.out.q2.1.cell (i := 0) rfl
              subst hf4
              simp only at c44 c45
              have n4 : (0 : Int) < ((l.length + 1 : Nat) : Int) := by omega
              obtain ⟨W9, hW9⟩ : ∃ W9, W9 = (w9.alloc (.cells #[.int .i64 y1, .int .i64 y2] 29)) := ⟨_, rfl⟩
              have HTX : Hid (Two 74 39 W9 w.heap.size w.heap.size v1 ((y1, y2) :: l) b2 (.slice (some ⟨g4, off4, none⟩) (l.length + 1) cap4) ((y1, y2) :: l)) := by rw [hW9]; exact HT.out.below ((Below.refl _ _).alloc (Nat.le_refl _) _)
              have hBX : Below w.heap.size w W9 := by rw [hW9]; exact hb9.alloc hsz _
              have HOX : Hid (ObjAt W9 w9.heap.size 29 [.int .i64 y1, .int .i64 y2]) := by rw [hW9]; exact ObjAt.new _ _ _
              have nx1 : w9.heap.size ≠ w.heap.size := by omega
              have nx2 : w9.heap.size ≠ b2 := by omega
              have nx3 : v1.ownBlock ≠ some w9.heap.size := fun e => by have := HT.out.q1.2.1.lt _ e; omega
              have OU := hide (rqOut (i := 0) (ns := l) (by simp) rfl b2 _ _ HTX.out.q2)
              have PO := hide (fun W v (h : QAt 74 W w.heap.size v ((y1, y2) :: l)) => qPull_one w.heap.size v W h)
              clear HT
              go_wp2_with fail
              rw [← hW9]
              refine OU.out.mono ?_
              rintro e w10 ⟨rfl, v10, hq10, hr10, hk10⟩
              have hk10' := kept_qS (.slice (some ⟨g4, off4, none⟩) (l.length + 1) cap4) hk10
              have hB10 := HTX.out.bel2 hBX hBX.size hk10'
              have HT10 := hide (HTX.out.second hBX.size hq10 (Or.inr hr10) hk10')
              have HO10 := hide (hk10.obj HOX.out (by simp; omega))
              clear hq10 hr10 hk10 hk10' OU HTX HOX hBX hW9 m4 c44 c45
              go_wp2_with fail
              refine (PO.out _ _ HT10.out.q1).mono ?_
              rintro e w11 ⟨rfl, v11, hq11, hr11, hk11⟩
              have hB11 := HT10.out.bel1 hB10 hB10.size hk11
              have HT11 := hide (HT10.out.first hB10.size hq11 hr11.to hk11)
              have HO11 := hide (kept_other hk11 HO10.out nx1 nx3)
              have y11 := HO11.out.lt
              have HT12 := hide (HT11.out.below ((Below.refl _ _).alloc (Nat.le_refl _) (.cells #[.int .i64 y1, .int .i64 y2] 29)))
              have hB12 : Below w.heap.size w (w11.alloc (.cells #[.int .i64 y1, .int .i64 y2] 29)) := hB11.alloc hB11.size _
              have HOY := hide (ObjAt.new w11 29 [.int .i64 y1, .int .i64 y2])
              have HO12 := hide (HO11.out.alloc (.cells #[.int .i64 y1, .int .i64 y2] 29))
              clear hq11 hr11 hk11 PO HT10 HO10 HT11 HO11
              go_wp2_with fail
              refine (error_any 0 0 _ (hE.below (B := w.heap.size) hB12 hE.pos)).mono ?_
              rintro e w13 ⟨rfl, hb13⟩
              have hB13 : Below w.heap.size w w13 := hB12.trans (hb13.mono hB12.size)
              have HT13 := hide (HT12.out.below hb13)
              have HOY2 := hide (HOY.out.below hb13)
              have HO13 := hide (HO12.out.below hb13)
              have e0 := HOY2.out.cell (i := 0) rfl
              have e1 := HOY2.out.cell (i := 1) rfl
              have f0 := HO13.out.cell (i := 0) rfl
              have f1 := HO13.out.cell (i := 1) rfl
              clear hb13 HT12 HOY HO12 hB12 hB11 hB10
              have HSm : Hid (∀ w' : World, Below w13.heap.size w13 w' → w'.cell? ⟨b2, 0, none⟩ = some (v10)) := fun w' hB => (hB.cell (p := ⟨b2, 0, none⟩) HT13.out.q2.1.lt).trans (HT13.out.q2.1.cell (i := 0) rfl)
              have AL := hide (fun W (hW : Below w13.heap.size w13 W) => qAll _ _ _ W (HT13.out.below hW).q1)
              have PM := hide (fun W (hW : Below w13.heap.size w13 W) => (HT13.out.below hW).q2.2.1.psl)
              have hrr := Below.refl w13.heap.size w13
              have hm3 := HSm.out _ hrr
              have hm4 := HT13.out.q2.1.lt
              go_wp2_with fail
              go_region_held3 (fun w' => w'.cell? ⟨b2, 0, none⟩ = some (v10)) (first | exact HSm.out _ (by assumption) | (refine HSm.out _ ?_; go_grown) | go_keep)
                (first
                  | (go_at_call 14; refine (AL.out _ (by go_grown)).mono ?_; rintro e5 wa ⟨va, rfl, hpa, hba⟩; have hwa : Below w13.heap.size w13 wa := Below.trans (by go_grown) (Below.mono hba (by first | omega | (simp; done) | (simp; omega))); have hsa := hba.size; (try simp at hsa); obtain ⟨ca, da⟩ := bcell hba)
                  | (go_at_call 20; refine (sameConns _ (hpa.below (by go_grown)) (PM.out _ (Below.trans hwa (Below.mono (by go_grown : Below wa.heap.size wa _) hwa.size)))).mono ?_; rintro e6 wb ⟨rfl, hbb⟩; have hwb : Below w13.heap.size w13 wb := Below.trans (Below.trans hwa (Below.mono (by go_grown : Below wa.heap.size wa _) hwa.size)) (Below.mono hbb (by have := hwa.size; first | omega | (simp; done) | (simp; omega))); have hsb := hbb.size; (try simp at hsb); obtain ⟨cb, db⟩ := bcell hbb))
              have HTZ := hide (HT13.out.below hwb)
              have HBZ := hide (hB13.trans (hwb.mono hB13.size))
              clear hrr hm3 hm4 hba hpa hbb ca da cb db hsa hsb hwa hwb AL PM HSm
              go_wp2
              go_roundw
              case rel => exact ⟨k + 1, v11, v10, l, by go_num, by omega, by omega, by omega, hl8, HTZ.out, HBZ.out⟩
              case measure => simp [intOf] <;> omega
          · have td0 : (d == 0) = false := beq_eq_false_iff_ne.2 hd0
            by_cases hd1 : d = 1
            ·
              subst hd1
              obtain ⟨r0, r1⟩ := HSl.out _ hb9
              obtain ⟨j, hj⟩ : ∃ j, idxP (cnP s n) zs = j := ⟨_, rfl⟩
              have PL := hide (fun W (hW : Below w9.heap.size w9 W) => rqPlace_at hj b2 v2 W (HT.out.below hW).q2)
              cases hv : connB s n
              ·
                have DR := hide (fun W v (h : QAt 74 W w.heap.size v zs) => qDrop_range hv w.heap.size v W h)
                have RC := hide (fun W => rConn_eq hv W)
                go_wp2_with fail
                refine (RC.out _).mono ?_
                rintro e w10 ⟨rfl, hb10⟩
                have hB10 : Below w.heap.size w w10 := hb9.trans (hb10.mono hsz)
                obtain ⟨s0, s1⟩ := HSl.out _ hB10
                go_wp2_with fail
                refine (PL.out _ hb10).mono ?_
                rintro e w11 ⟨rfl, hb11⟩
                have hB11 : Below w.heap.size w w11 := hB10.trans (hb11.mono hB10.size)
                have HT11 := hide ((HT.out.below hb10).below hb11)
                obtain ⟨u0, u1⟩ := HSl.out _ hB11
                clear hb10 hb11 PL RC HT r0 r1 s0 s1
                go_wp2_with fail
                refine (DR.out _ _ HT11.out.q1).mono ?_
                rintro e w12 ⟨rfl, hb12⟩
                have hB12 : Below w.heap.size w w12 := hB11.trans (hb12.mono hB11.size)
                have HT12 := hide (HT11.out.below hb12)
                clear hb12 HT11 u0 u1
                go_wp2_with fail
                refine (error_any 1 1 _ (hE.below (B := w.heap.size) hB12 hE.pos)).mono ?_
                rintro e w13 ⟨rfl, hb13⟩
                have hB13 : Below w.heap.size w w13 := hB12.trans (hb13.mono hB12.size)
                have HT13 := hide (HT12.out.below hb13)
                clear hb13 HT12
                have HSm : Hid (∀ w' : World, Below w13.heap.size w13 w' → w'.cell? ⟨b2, 0, none⟩ = some (v2)) := fun w' hB => (hB.cell (p := ⟨b2, 0, none⟩) HT13.out.q2.1.lt).trans (HT13.out.q2.1.cell (i := 0) rfl)
                have AL := hide (fun W (hW : Below w13.heap.size w13 W) => qAll _ _ _ W (HT13.out.below hW).q1)
                have PM := hide (fun W (hW : Below w13.heap.size w13 W) => (HT13.out.below hW).q2.2.1.psl)
                have hrr := Below.refl w13.heap.size w13
                have hm3 := HSm.out _ hrr
                have hm4 := HT13.out.q2.1.lt
                go_wp2_with fail
                go_region_held3 (fun w' => w'.cell? ⟨b2, 0, none⟩ = some (v2)) (first | exact HSm.out _ (by assumption) | (refine HSm.out _ ?_; go_grown) | go_keep)
                  (first
                    | (go_at_call 14; refine (AL.out _ (by go_grown)).mono ?_; rintro e5 wa ⟨va, rfl, hpa, hba⟩; have hwa : Below w13.heap.size w13 wa := Below.trans (by go_grown) (Below.mono hba (by first | omega | (simp; done) | (simp; omega))); have hsa := hba.size; (try simp at hsa); obtain ⟨ca, da⟩ := bcell hba)
                    | (go_at_call 20; refine (sameConns _ (hpa.below (by go_grown)) (PM.out _ (Below.trans hwa (Below.mono (by go_grown : Below wa.heap.size wa _) hwa.size)))).mono ?_; rintro e6 wb ⟨rfl, hbb⟩; have hwb : Below w13.heap.size w13 wb := Below.trans (Below.trans hwa (Below.mono (by go_grown : Below wa.heap.size wa _) hwa.size)) (Below.mono hbb (by have := hwa.size; first | omega | (simp; done) | (simp; omega))); have hsb := hbb.size; (try simp at hsb); obtain ⟨cb, db⟩ := bcell hbb))
                have HTZ := hide (HT13.out.below hwb)
                have HBZ := hide (hB13.trans (hwb.mono hB13.size))
                clear hrr hm3 hm4 hba hpa hbb ca da cb db hsa hsb hwa hwb AL PM HSm
                go_wp2
                go_roundw
                case rel => exact ⟨k + 1, v1, v2, zs, by go_num, by omega, by omega, by omega, hz8, HTZ.out, HBZ.out⟩
                case measure => simp [intOf] <;> omega
              ·
                rcases idxP_cases (cnP s n) zs with ⟨hjn, _⟩ | ⟨i, hiz, hij, _, _⟩
                ·
                  have DR := hide (fun W v (h : QAt 74 W w.heap.size v zs) => qDrop_none hv hjn w.heap.size v W h)
                  rw [hjn] at hj
                  subst hj
                  have RC := hide (fun W => rConn_eq hv W)
                  go_wp2_with fail
                  refine (RC.out _).mono ?_
                  rintro e w10 ⟨rfl, hb10⟩
                  have hB10 : Below w.heap.size w w10 := hb9.trans (hb10.mono hsz)
                  obtain ⟨s0, s1⟩ := HSl.out _ hB10
                  go_wp2_with fail
                  refine (PL.out _ hb10).mono ?_
                  rintro e w11 ⟨rfl, hb11⟩
                  have hB11 : Below w.heap.size w w11 := hB10.trans (hb11.mono hB10.size)
                  have HT11 := hide ((HT.out.below hb10).below hb11)
                  obtain ⟨u0, u1⟩ := HSl.out _ hB11
                  clear hb10 hb11 PL RC HT r0 r1 s0 s1
                  go_wp2_with fail
                  refine (DR.out _ _ HT11.out.q1).mono ?_
                  rintro e w12 ⟨rfl, hb12⟩
                  have hB12 : Below w.heap.size w w12 := hB11.trans (hb12.mono hB11.size)
                  have HT12 := hide (HT11.out.below hb12)
                  clear hb12 HT11 u0 u1
                  go_wp2_with fail
                  refine (error_any 5 5 _ (hE.below (B := w.heap.size) hB12 hE.pos)).mono ?_
                  rintro e w13 ⟨rfl, hb13⟩
                  have hB13 : Below w.heap.size w w13 := hB12.trans (hb13.mono hB12.size)
                  have HT13 := hide (HT12.out.below hb13)
                  clear hb13 HT12
                  have HSm : Hid (∀ w' : World, Below w13.heap.size w13 w' → w'.cell? ⟨b2, 0, none⟩ = some (v2)) := fun w' hB => (hB.cell (p := ⟨b2, 0, none⟩) HT13.out.q2.1.lt).trans (HT13.out.q2.1.cell (i := 0) rfl)
                  have AL := hide (fun W (hW : Below w13.heap.size w13 W) => qAll _ _ _ W (HT13.out.below hW).q1)
                  have PM := hide (fun W (hW : Below w13.heap.size w13 W) => (HT13.out.below hW).q2.2.1.psl)
                  have hrr := Below.refl w13.heap.size w13
                  have hm3 := HSm.out _ hrr
                  have hm4 := HT13.out.q2.1.lt
                  go_wp2_with fail
                  go_region_held3 (fun w' => w'.cell? ⟨b2, 0, none⟩ = some (v2)) (first | exact HSm.out _ (by assumption) | (refine HSm.out _ ?_; go_grown) | go_keep)
                    (first
                      | (go_at_call 14; refine (AL.out _ (by go_grown)).mono ?_; rintro e5 wa ⟨va, rfl, hpa, hba⟩; have hwa : Below w13.heap.size w13 wa := Below.trans (by go_grown) (Below.mono hba (by first | omega | (simp; done) | (simp; omega))); have hsa := hba.size; (try simp at hsa); obtain ⟨ca, da⟩ := bcell hba)
                      | (go_at_call 20; refine (sameConns _ (hpa.below (by go_grown)) (PM.out _ (Below.trans hwa (Below.mono (by go_grown : Below wa.heap.size wa _) hwa.size)))).mono ?_; rintro e6 wb ⟨rfl, hbb⟩; have hwb : Below w13.heap.size w13 wb := Below.trans (Below.trans hwa (Below.mono (by go_grown : Below wa.heap.size wa _) hwa.size)) (Below.mono hbb (by have := hwa.size; first | omega | (simp; done) | (simp; omega))); have hsb := hbb.size; (try simp at hsb); obtain ⟨cb, db⟩ := bcell hbb))
                  have HTZ := hide (HT13.out.below hwb)
                  have HBZ := hide (hB13.trans (hwb.mono hB13.size))
                  clear hrr hm3 hm4 hba hpa hbb ca da cb db hsa hsb hwa hwb AL PM HSm
                  go_wp2
                  go_roundw
                  case rel => exact ⟨k + 1, v1, v2, zs, by go_num, by omega, by omega, by omega, hz8, HTZ.out, HBZ.out⟩
                  case measure => simp [intOf] <;> omega
                ·
                  have hn8 := erase_len (i := i) hz8
                  obtain ⟨ns, hns⟩ : ∃ ns, zs.eraseIdx i = ns := ⟨_, rfl⟩
                  rw [hns] at hn8
                  have DR := hide (fun W v (h : QAt 74 W w.heap.size v zs) => qDrop_ok hv hiz hij hns w.heap.size v W h)
                  have OU := hide (fun W v (h : QAt 39 W b2 v zs) => rqOut hiz hns b2 v W h)
                  rw [hij] at hj
                  subst hj
                  have hi8 : i < 8 := by omega
                  have n1 : ¬ ((i : Int) < 0) := by omega
                  clear hij hns hiz
                  have RC := hide (fun W => rConn_eq hv W)
                  go_wp2_with fail
                  refine (RC.out _).mono ?_
                  rintro e w10 ⟨rfl, hb10⟩
                  have hB10 : Below w.heap.size w w10 := hb9.trans (hb10.mono hsz)
                  obtain ⟨s0, s1⟩ := HSl.out _ hB10
                  go_wp2_with fail
                  refine (PL.out _ hb10).mono ?_
                  rintro e w11 ⟨rfl, hb11⟩
                  have hB11 : Below w.heap.size w w11 := hB10.trans (hb11.mono hB10.size)
                  have HT11 := hide ((HT.out.below hb10).below hb11)
                  obtain ⟨u0, u1⟩ := HSl.out _ hB11
                  clear hb10 hb11 PL RC HT r0 r1 s0 s1
                  go_wp2_with fail
                  refine (OU.out _ _ HT11.out.q2).mono ?_
                  rintro e w12 ⟨rfl, v12, hq12, hr12, hk12⟩
                  have hk12' := kept_qS v2 hk12
                  have hB12 := HT11.out.bel2 hB11 hB11.size hk12'
                  have HT12 := hide (HT11.out.second hB11.size hq12 (Or.inr hr12) hk12')
                  obtain ⟨r0, r1⟩ := HSl.out _ hB12
                  clear hq12 hr12 hk12 hk12' OU HT11 u0 u1
                  go_wp2_with fail
                  refine (DR.out _ _ HT12.out.q1).mono ?_
                  rintro e w13 ⟨rfl, v13, hq13, hr13, hk13⟩
                  have hB13 := HT12.out.bel1 hB12 hB12.size hk13
                  have HT13 := hide (HT12.out.first hB12.size hq13 hr13.to hk13)
                  clear hq13 hr13 hk13 DR HT12 r0 r1
                  go_wp2_with fail
                  refine (error_any 0 0 _ (hE.below (B := w.heap.size) hB13 hE.pos)).mono ?_
                  rintro e w14 ⟨rfl, hb14⟩
                  have hB14 : Below w.heap.size w w14 := hB13.trans (hb14.mono hB13.size)
                  have HT14 := hide (HT13.out.below hb14)
                  clear hb14 HT13
                  have HSm : Hid (∀ w' : World, Below w14.heap.size w14 w' → w'.cell? ⟨b2, 0, none⟩ = some (v12)) := fun w' hB => (hB.cell (p := ⟨b2, 0, none⟩) HT14.out.q2.1.lt).trans (HT14.out.q2.1.cell (i := 0) rfl)
                  have AL := hide (fun W (hW : Below w14.heap.size w14 W) => qAll _ _ _ W (HT14.out.below hW).q1)
                  have PM := hide (fun W (hW : Below w14.heap.size w14 W) => (HT14.out.below hW).q2.2.1.psl)
                  have hrr := Below.refl w14.heap.size w14
                  have hm3 := HSm.out _ hrr
                  have hm4 := HT14.out.q2.1.lt
                  go_wp2_with fail
                  go_region_held3 (fun w' => w'.cell? ⟨b2, 0, none⟩ = some (v12)) (first | exact HSm.out _ (by assumption) | (refine HSm.out _ ?_; go_grown) | go_keep)
                    (first
                      | (go_at_call 14; refine (AL.out _ (by go_grown)).mono ?_; rintro e5 wa ⟨va, rfl, hpa, hba⟩; have hwa : Below w14.heap.size w14 wa := Below.trans (by go_grown) (Below.mono hba (by first | omega | (simp; done) | (simp; omega))); have hsa := hba.size; (try simp at hsa); obtain ⟨ca, da⟩ := bcell hba)
                      | (go_at_call 20; refine (sameConns _ (hpa.below (by go_grown)) (PM.out _ (Below.trans hwa (Below.mono (by go_grown : Below wa.heap.size wa _) hwa.size)))).mono ?_; rintro e6 wb ⟨rfl, hbb⟩; have hwb : Below w14.heap.size w14 wb := Below.trans (Below.trans hwa (Below.mono (by go_grown : Below wa.heap.size wa _) hwa.size)) (Below.mono hbb (by have := hwa.size; first | omega | (simp; done) | (simp; omega))); have hsb := hbb.size; (try simp at hsb); obtain ⟨cb, db⟩ := bcell hbb))
                  have HTZ := hide (HT14.out.below hwb)
                  have HBZ := hide (hB14.trans (hwb.mono hB14.size))
                  clear hrr hm3 hm4 hba hpa hbb ca da cb db hsa hsb hwa hwb AL PM HSm
                  go_wp2
                  go_roundw
                  case rel => exact ⟨k + 1, v13, v12, ns, by go_num, by omega, by omega, by omega, hn8, HTZ.out, HBZ.out⟩
                  case measure => simp [intOf] <;> omega
            ·
              have td1 : (d == 1) = false := beq_eq_false_iff_ne.2 hd1
              obtain ⟨r0, r1⟩ := HSl.out _ hb9
              obtain ⟨c, hc⟩ : ∃ c, offE zs s n = c := ⟨_, rfl⟩
              have hrr := Below.refl w9.heap.size w9
              by_cases hc0 : c = 0
              ·
                subst hc0
                have hn8 := offer_len9 hc
                obtain ⟨ns, hns⟩ : ∃ ns, zs ++ [(s, n)] = ns := ⟨_, rfl⟩
                rw [hns] at hn8
                have OQ := hide (fun W v (h : QAt 74 W w.heap.size v zs) => qOffer_ok hns hc w.heap.size v W h)
                have OM := hide (fun W v (h : QAt 39 W b2 v zs) => rqOffer_ok hns hc b2 v W h)
                clear hc hns
                go_wp2_with fail
                go_region_held3 (fun w' => w'.cell? ⟨bl, offl + k * 2, none⟩ = some (.int .i64 s) ∧ w'.cell? ⟨bl, offl + k * 2 + 1, none⟩ = some (.int .i64 n)) (first | exact HSl.out _ (by assumption) | (refine HSl.out _ ?_; go_grown) | (refine HSl.out _ ?_; exact Below.drewN (by assumption) _) | go_keep)
                  (first
                    | (go_at_call 11; refine (OQ.out _ _ (HT.out.below (by go_grown : Below w9.heap.size w9 _)).q1).mono ?_; rintro e5 w10 ⟨rfl, v10, hq10, hr10, hk10⟩; have hB10 : Below w.heap.size w w10 := ((HT.out.below (by go_grown : Below w9.heap.size w9 _))).bel1 (hb9.trans (Below.mono (by go_grown : Below w9.heap.size w9 _) hsz)) (by first | exact hsz | exact Nat.le_trans hsz (by go_size) | omega | (simp; done) | (simp; omega)) hk10; have HT10 := hide (((HT.out.below (by go_grown : Below w9.heap.size w9 _))).first (by first | exact hsz | exact Nat.le_trans hsz (by go_size) | omega | (simp; done) | (simp; omega)) hq10 hr10.to hk10); have hs10 := hB10.size; have hl10 : bl < w10.heap.size := (by omega); clear hq10 hr10 hk10)
                    | (go_at_call 19; refine (OM.out _ _ (HT10.out.below (by go_grown : Below w10.heap.size w10 _)).q2).mono ?_; rintro e6 w11 ⟨rfl, v11, hq11, hr11, hk11⟩; have hB11 : Below w.heap.size w w11 := ((HT10.out.below (by go_grown : Below w10.heap.size w10 _))).bel2 (hB10.trans (Below.mono (by go_grown : Below w10.heap.size w10 _) hs10)) (by first | exact hs10 | exact Nat.le_trans hs10 (by go_size) | omega | (simp; done) | (simp; omega)) hk11; have HT11 := hide (((HT10.out.below (by go_grown : Below w10.heap.size w10 _))).second (by first | exact hs10 | exact Nat.le_trans hs10 (by go_size) | omega | (simp; done) | (simp; omega)) hq11 hr11.to hk11); have hs11 := hB11.size; have hl11 : bl < w11.heap.size := (by omega); clear hq11 hr11 hk11)
                    | (go_at_call 13; refine (error_any 0 0 _ (hE.below (B := w.heap.size) (hB11.trans (Below.mono (by go_grown : Below w11.heap.size w11 _) hs11)) hE.pos)).mono ?_; rintro e7 w12 ⟨rfl, hb12⟩; have hw12 : Below w11.heap.size w11 w12 := Below.trans (by go_grown) (Below.mono hb12 (by first | omega | (simp; done) | (simp; omega))); have hB12 : Below w.heap.size w w12 := hB11.trans (hw12.mono hs11); have HT12 := hide (HT11.out.below hw12); have hl12 : bl < w12.heap.size := (by have := hB12.size; omega); clear hb12 hw12))
                clear OQ OM r0 r1 HT HT10 HT11 hs10 hs11 hl10 hl11 hl12
                have HSm : Hid (∀ w' : World, Below w12.heap.size w12 w' → w'.cell? ⟨b2, 0, none⟩ = some (v11)) := fun w' hB => (hB.cell (p := ⟨b2, 0, none⟩) HT12.out.q2.1.lt).trans (HT12.out.q2.1.cell (i := 0) rfl)
                have AL := hide (fun W (hW : Below w12.heap.size w12 W) => qAll _ _ _ W (HT12.out.below hW).q1)
                have PM := hide (fun W (hW : Below w12.heap.size w12 W) => (HT12.out.below hW).q2.2.1.psl)
                have hrr := Below.refl w12.heap.size w12
                have hm3 := HSm.out _ hrr
                have hm4 := HT12.out.q2.1.lt
                go_wp2_with fail
                go_region_held3 (fun w' => w'.cell? ⟨b2, 0, none⟩ = some (v11)) (first | exact HSm.out _ (by assumption) | (refine HSm.out _ ?_; go_grown) | go_keep)
                  (first
                    | (go_at_call 14; refine (AL.out _ (by go_grown)).mono ?_; rintro e5 wa ⟨va, rfl, hpa, hba⟩; have hwa : Below w12.heap.size w12 wa := Below.trans (by go_grown) (Below.mono hba (by first | omega | (simp; done) | (simp; omega))); have hsa := hba.size; (try simp at hsa); obtain ⟨ca, da⟩ := bcell hba)
                    | (go_at_call 20; refine (sameConns _ (hpa.below (by go_grown)) (PM.out _ (Below.trans hwa (Below.mono (by go_grown : Below wa.heap.size wa _) hwa.size)))).mono ?_; rintro e6 wb ⟨rfl, hbb⟩; have hwb : Below w12.heap.size w12 wb := Below.trans (Below.trans hwa (Below.mono (by go_grown : Below wa.heap.size wa _) hwa.size)) (Below.mono hbb (by have := hwa.size; first | omega | (simp; done) | (simp; omega))); have hsb := hbb.size; (try simp at hsb); obtain ⟨cb, db⟩ := bcell hbb))
                have HTZ := hide (HT12.out.below hwb)
                have HBZ := hide (hB12.trans (hwb.mono hB12.size))
                clear hrr hm3 hm4 hba hpa hbb ca da cb db hsa hsb hwa hwb AL PM HSm
                go_wp2
                go_roundw
                case rel => exact ⟨k + 1, v10, v11, ns, by go_num, by omega, by omega, by omega, hn8, HTZ.out, HBZ.out⟩
                case measure => simp [intOf] <;> omega
              ·
                clear hrr
                have hrr := Below.refl w9.heap.size w9
                have OQ := hide (fun W v (h : QAt 74 W w.heap.size v zs) => qOffer_bad hc hc0 hz8 w.heap.size v W h)
                have OM := hide (fun W v (h : QAt 39 W b2 v zs) => rqOffer_bad hc hc0 hz8 b2 v W h)
                clear hc
                go_wp2_with fail
                go_region_held3 (fun w' => w'.cell? ⟨bl, offl + k * 2, none⟩ = some (.int .i64 s) ∧ w'.cell? ⟨bl, offl + k * 2 + 1, none⟩ = some (.int .i64 n)) (first | exact HSl.out _ (by assumption) | (refine HSl.out _ ?_; go_grown) | (refine HSl.out _ ?_; exact Below.drewN (by assumption) _) | go_keep)
                  (first
                    | (go_at_call 11; refine (OQ.out _ _ (HT.out.below (by go_grown : Below w9.heap.size w9 _)).q1).mono ?_; rintro e5 w10 ⟨rfl, hb10⟩; have hw10 : Below w9.heap.size w9 w10 := Below.trans (by go_grown) (Below.mono hb10 (by first | omega | (simp; done) | (simp; omega))); have hB10 : Below w.heap.size w w10 := hb9.trans (hw10.mono hsz); have HT10 := hide (HT.out.below hw10); have hs10 := hB10.size; have hl10 : bl < w10.heap.size := (by omega); clear hb10 hw10)
                    | (go_at_call 19; refine (OM.out _ _ (HT10.out.below (by go_grown : Below w10.heap.size w10 _)).q2).mono ?_; rintro e6 w11 ⟨rfl, hb11⟩; have hw11 : Below w10.heap.size w10 w11 := Below.trans (by go_grown) (Below.mono hb11 (by first | omega | (simp; done) | (simp; omega))); have hB11 : Below w.heap.size w w11 := hB10.trans (hw11.mono hs10); have HT11 := hide (HT10.out.below hw11); have hs11 := hB11.size; have hl11 : bl < w11.heap.size := (by omega); clear hb11 hw11)
                    | (go_at_call 13; refine (error_any c c _ (hE.below (B := w.heap.size) (hB11.trans (Below.mono (by go_grown : Below w11.heap.size w11 _) hs11)) hE.pos)).mono ?_; rintro e7 w12 ⟨rfl, hb12⟩; have hw12 : Below w11.heap.size w11 w12 := Below.trans (by go_grown) (Below.mono hb12 (by first | omega | (simp; done) | (simp; omega))); have hB12 : Below w.heap.size w w12 := hB11.trans (hw12.mono hs11); have HT12 := hide (HT11.out.below hw12); have hl12 : bl < w12.heap.size := (by have := hB12.size; omega); clear hb12 hw12))
                clear OQ OM r0 r1 HT HT10 HT11 hs10 hs11 hl10 hl11 hl12
                have HSm : Hid (∀ w' : World, Below w12.heap.size w12 w' → w'.cell? ⟨b2, 0, none⟩ = some (v2)) := fun w' hB => (hB.cell (p := ⟨b2, 0, none⟩) HT12.out.q2.1.lt).trans (HT12.out.q2.1.cell (i := 0) rfl)
                have AL := hide (fun W (hW : Below w12.heap.size w12 W) => qAll _ _ _ W (HT12.out.below hW).q1)
                have PM := hide (fun W (hW : Below w12.heap.size w12 W) => (HT12.out.below hW).q2.2.1.psl)
                have hrr := Below.refl w12.heap.size w12
                have hm3 := HSm.out _ hrr
                have hm4 := HT12.out.q2.1.lt
                go_wp2_with fail
                go_region_held3 (fun w' => w'.cell? ⟨b2, 0, none⟩ = some (v2)) (first | exact HSm.out _ (by assumption) | (refine HSm.out _ ?_; go_grown) | go_keep)
                  (first
                    | (go_at_call 14; refine (AL.out _ (by go_grown)).mono ?_; rintro e5 wa ⟨va, rfl, hpa, hba⟩; have hwa : Below w12.heap.size w12 wa := Below.trans (by go_grown) (Below.mono hba (by first | omega | (simp; done) | (simp; omega))); have hsa := hba.size; (try simp at hsa); obtain ⟨ca, da⟩ := bcell hba)
                    | (go_at_call 20; refine (sameConns _ (hpa.below (by go_grown)) (PM.out _ (Below.trans hwa (Below.mono (by go_grown : Below wa.heap.size wa _) hwa.size)))).mono ?_; rintro e6 wb ⟨rfl, hbb⟩; have hwb : Below w12.heap.size w12 wb := Below.trans (Below.trans hwa (Below.mono (by go_grown : Below wa.heap.size wa _) hwa.size)) (Below.mono hbb (by have := hwa.size; first | omega | (simp; done) | (simp; omega))); have hsb := hbb.size; (try simp at hsb); obtain ⟨cb, db⟩ := bcell hbb))
                have HTZ := hide (HT12.out.below hwb)
                have HBZ := hide (hB12.trans (hwb.mono hB12.size))
                clear hrr hm3 hm4 hba hpa hbb ca da cb db hsa hsb hwa hwb AL PM HSm
                go_wp2
                go_roundw
                case rel => exact ⟨k + 1, v1, v2, zs, by go_num, by omega, by omega, by omega, hz8, HTZ.out, HBZ.out⟩
                case measure => simp [intOf] <;> omega
        · go_wp2
          go_ret
          exact ⟨rfl, hb9⟩
      · go_wp2
        go_ret
        exact ⟨rfl, hb9⟩
    · go_wp2
      go_ret
      exact ⟨rfl, hb9⟩
end Go.Proofs.YtfehnfbmlomccaaDoor
