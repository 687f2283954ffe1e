/- foldref2: Cut, Digits by contract. foldref2: Digits by contract. run: numbers by contract. Objects of four cells, stored anew. -/
import Derived.Test.YtlnghfmcofmkjaaGreatDoorRunAnswersProofM3
import Derived.Test.YtlnghfmcofmkjaaGreatDoorObj
namespace Go.Proofs.YtlnghfmcofmkjaaGreatDoor
open Go.RowKit

theorem cut_step {c : UInt8} {l : List UInt8} {f k : Nat} (hf : f ≤ k) (hn : ∀ j, f ≤ j → j < k → l[j]? ≠ some c) (hk : l[k]? = some c) : cutL c (l.drop f) = (l.drop f).take (k - f) :: cutL c (l.drop (k + 1)) := by
  obtain ⟨hlt, hget⟩ := List.getElem?_eq_some_iff.1 hk
  have e : l.drop f = (l.drop f).take (k - f) ++ c :: l.drop (k + 1) := by
    have h1 := (List.take_append_drop (k - f) (l.drop f)).symm
    have h2 : (l.drop f).drop (k - f) = c :: l.drop (k + 1) := by
      rw [List.drop_drop]
      have : f + (k - f) = k := by omega
      rw [this, List.drop_eq_getElem_cons hlt, hget]
    rw [h2] at h1
    exact h1
  have hm : ∀ x ∈ (l.drop f).take (k - f), x ≠ c := by
    intro x hx e'
    obtain ⟨i, hi, hxi⟩ := List.getElem_of_mem hx
    have hi2 : i < k - f := by rw [List.length_take] at hi; omega
    refine hn (f + i) (by omega) (by omega) ?_
    rw [← e', ← hxi, List.getElem_take, List.getElem_drop]
    exact List.getElem?_eq_getElem (by omega)
  have h3 := cutL_some (r := l.drop (k + 1)) hm
  rw [← e] at h3
  exact h3
theorem cut_end {c : UInt8} {l : List UInt8} {f : Nat} (hn : ∀ j, f ≤ j → j < l.length → l[j]? ≠ some c) : cutL c (l.drop f) = [l.drop f] := by
  refine cutL_none (fun x hx e => ?_)
  obtain ⟨i, hi, hxi⟩ := List.getElem_of_mem hx
  rw [List.length_drop] at hi
  refine hn (f + i) (by omega) (by omega) ?_
  rw [← e, ← hxi, List.getElem_drop]
  exact List.getElem?_eq_getElem (by omega)
/-- the parts of a text cut at c, in a row of the call's own -/
def CutPost (c : UInt8) (s : ByteArray) (w : World) (e : Ending) (w' : World) : Prop :=
  ∃ (v : Value) (ps : List ByteArray), ps.map (·.data.toList) = cutL c s.data.toList ∧ e = .returned v ∧ w'.ownsRow w.heap.size 9 1 v ps.length (ps.map Value.string) ∧ Below w.heap.size w w'
set_option maxHeartbeats 4000000 in
theorem refCut (c : UInt8) (s : ByteArray) (hs : s.size ≤ 1000000) (w : World) : Calls Tryz.prog 7 #[.string s, .int .u8 (c.toNat : Int)] w (CutPost c s w) := by
  obtain ⟨i0, hi, hz0, hz1, hz2⟩ := info_parts Tryz.infoStr
  have Hi0 := hide hi
  have Hz0 := hide hz0
  have Hz1 := hide hz1
  have Hz2 := hide hz2
  have hll : s.data.toList.length = s.size := by simp
  have HLL := hide hll
  clear hi hz0 hz1 hz2 hll
  go_enter Tryz.func7, Tryz.ntmps7
  go_wp2_with fail
  go_loopw [5, 6, 7] (fun o fv i wr => ∃ (k f : Nat) (ps : List ByteArray), i = .int .i64 (k : Int) ∧ fv = .int .i64 (f : Int) ∧ f ≤ k ∧ k ≤ s.size ∧ ps.length ≤ k ∧ Hid (cutL c s.data.toList = ps.map (·.data.toList) ++ cutL c (s.data.toList.drop f)) ∧ Hid (∀ j, f ≤ j → j < k → s.data.toList[j]? ≠ some c) ∧ wr.ownsRow w.heap.size 9 1 o ps.length (ps.map Value.string) ∧ Below w.heap.size w wr) (fun _ _ i _ => 2000000 - (intOf i).toNat)
  case atStart => exact ⟨0, 0, [], rfl, rfl, by omega, by omega, by simp, hide (by simp), hide (by intro j h1 h2; omega), World.ownsRow_nil _ _ _ _, Below.refl _ _⟩
  case round =>
    obtain ⟨k, f, ps, rfl, rfl, hf, hkm, hpl, HC, HN, hown, hbw⟩ := hrel
    obtain ⟨av, cv, rfl⟩ := own_slS hown
    have HO := hide hown
    have HBW := hide hbw
    have hyr : w.heap.size ≤ wr.heap.size := hbw.size
    by_cases hlt : k < s.size
    · have hget : s.data.toList[k]? = some (s[k]'hlt) := by
        rw [Array.getElem?_toList]
        exact Array.getElem?_eq_getElem hlt
      have HG := hide hget
      clear hget hown hbw
      by_cases hc : s[k]'hlt = c
      · have hb : (((s[k]'hlt).toNat : Int) == (c.toNat : Int)) = true := by rw [hc]; exact beq_self_eq_true _
        have hst := cut_step hf HN.out (by rw [HG.out, hc])
        have HS := hide hst
        clear hc hst
        go_wp2_with (first | (at_builtin; refine wpList_append_own _ rfl _ _ 23 rfl (w.heap.size) 9 i0 _ 1 16 Tryz.underlying23 Hi0.out Hz0.out Hz1.out Hz2.out rfl (by decide) _ _ _ rfl (HO.out.alloc _) ⟨wr.heap.size, 0, none⟩ 1 1 [.string (s.extract f k)] rfl rfl ?c1 ?c2 ?c3 ?c4 ?c5 ?_))
        case c1 =>
          intro j x hj
          cases j with
          | zero => simp at hj; subst hj; simp [Addr.add]
          | succ j => simp at hj
        case c2 => intro x hu; simp at hu; subst hu; rfl
        case c3 => unfold maxLen; omega
        case c4 => omega
        case c5 => first | omega | (simp; omega)
        intro v2 w40 hown2 hgrow _
        have hg0 : ∀ q, (Value.slice av ps.length cv).ownBlock = some q → w.heap.size ≤ q := own_blk HO.out
        have HB40 := hide (grown_below (HBW.out.alloc hyr _) hgrow hg0 (by simp; omega))
        have HO3 : Hid (w40.ownsRow w.heap.size 9 1 v2 (ps ++ [s.extract f k]).length ((ps ++ [s.extract f k]).map Value.string)) := hide (by simpa using hown2)
        have hpiece : (s.extract f k).data.toList = (s.data.toList.drop f).take (k - f) := by
          simp only [ByteArray.data_extract, Array.toList_extract, List.extract_eq_take_drop]
        have HP := hide hpiece
        clear hown2 hgrow hg0 hpiece
        go_wp2
        go_roundw
        case rel => exact ⟨k + 1, k + 1, ps ++ [s.extract f k], by go_num, by go_num, by omega, by omega, by simp; omega, hide (by rw [HC.out, HS.out, List.map_append, List.append_assoc, ← HP.out]; rfl), hide (by intro j h1 h2; omega), HO3.out, HB40.out⟩
        case measure => simp [intOf]; omega
      · have hb : (((s[k]'hlt).toNat : Int) == (c.toNat : Int)) = false := beq_eq_false_iff_ne.2 (fun e => hc (UInt8.toNat_inj.1 (Int.ofNat.inj e)))
        have HN2 := hide hc
        clear hc
        go_wp2
        go_roundw
        case rel => exact ⟨k + 1, f, ps, by go_num, rfl, by omega, by omega, by omega, HC, hide (by
          intro j h1 h2
          by_cases e : j = k
          · subst e
            rw [HG.out]
            exact fun e => HN2.out (Option.some.inj e)
          · exact HN.out j h1 (by omega)), HO.out, HBW.out⟩
        case measure => simp [intOf]; omega
    · obtain rfl : k = s.size := by omega
      have hce := cut_end (c := c) (l := s.data.toList) (f := f) (fun j h1 h2 => HN.out j h1 (by rw [← HLL.out]; exact h2))
      have HE := hide hce
      clear hown hbw hce
      go_wp2_with (first | (at_builtin; refine wpList_append_own _ rfl _ _ 23 rfl (w.heap.size) 9 i0 _ 1 16 Tryz.underlying23 Hi0.out Hz0.out Hz1.out Hz2.out rfl (by decide) _ _ _ rfl (HO.out.alloc _) ⟨wr.heap.size, 0, none⟩ 1 1 [.string (s.extract f s.size)] rfl rfl ?c1 ?c2 ?c3 ?c4 ?c5 ?_))
      case c1 =>
        intro j x hj
        cases j with
        | zero => simp at hj; subst hj; simp [Addr.add]
        | succ j => simp at hj
      case c2 => intro x hu; simp at hu; subst hu; rfl
      case c3 => unfold maxLen; omega
      case c4 => omega
      case c5 => first | omega | (simp; omega)
      intro v2 w40 hown2 hgrow _
      have hg0 : ∀ q, (Value.slice av ps.length cv).ownBlock = some q → w.heap.size ≤ q := own_blk HO.out
      have HB40 := hide (grown_below (HBW.out.alloc hyr _) hgrow hg0 (by simp; omega))
      have HO3 : Hid (w40.ownsRow w.heap.size 9 1 v2 (ps ++ [s.extract f s.size]).length ((ps ++ [s.extract f s.size]).map Value.string)) := hide (by simpa using hown2)
      have hpiece : (s.extract f s.size).data.toList = s.data.toList.drop f := by
        simp only [ByteArray.data_extract, Array.toList_extract, List.extract_eq_take_drop]
        rw [List.take_of_length_le (by rw [List.length_drop, HLL.out]; exact Nat.le_refl _)]
      have HP := hide hpiece
      clear hown2 hgrow hg0 hpiece
      go_wp2
      go_ret
      exact ⟨_, ps ++ [s.extract f s.size], by rw [HC.out, HE.out, List.map_append, ← HP.out]; rfl, rfl, HO3.out, HB40.out⟩
/-- the ten digits -/
def tenB : ByteArray := ⟨#[48, 49, 50, 51, 52, 53, 54, 55, 56, 57]⟩
theorem ten_at : ∀ u : Nat, u < 10 → tenB.extract u (u + 1) = ⟨#[UInt8.ofNat (48 + u)]⟩ := by
  intro u hu
  match u, hu with
  | 0, _ => rfl
  | 1, _ => rfl
  | 2, _ => rfl
  | 3, _ => rfl
  | 4, _ => rfl
  | 5, _ => rfl
  | 6, _ => rfl
  | 7, _ => rfl
  | 8, _ => rfl
  | 9, _ => rfl
theorem numB_small {u : Nat} (h : u < 10) : tenB.extract u (u + 1) = numB (u : Int) := by
  rw [ten_at u h]
  unfold numB Lib.itoa
  rw [if_neg (by omega)]
  have : ((u : Int)).toNat = u := by omega
  rw [this, Lib.decDigits, dif_pos h]
theorem numB_big {u : Nat} (h : 10 ≤ u) : numB ((u / 10 : Nat) : Int) ++ tenB.extract (u % 10) (u % 10 + 1) = numB (u : Int) := by
  rw [ten_at _ (by omega)]
  unfold numB Lib.itoa
  rw [if_neg (by omega), if_neg (by omega)]
  have e1 : (((u / 10 : Nat) : Int)).toNat = u / 10 := by omega
  have e2 : ((u : Int)).toNat = u := by omega
  rw [e1, e2, Lib.decDigits.eq_1 u, dif_neg (by omega)]
  apply ByteArray.ext
  simp
end Go.Proofs.YtlnghfmcofmkjaaGreatDoor

namespace Go.Proofs.YtlnghfmcofmkjaaGreatDoor
open Go.RowKit

theorem ten_slice (u : Nat) (h : u < 10) (w : World) : (Instr.slice 9 (.string ⟨#[48, 49, 50, 51, 52, 53, 54, 55, 56, 57]⟩) (some (.int .i64 (u : Int))) (some (.int .i64 ((u : Int) + 1))) none).run Tryz.prog w = .ok (.string (tenB.extract u (u + 1))) w := by
  have h10 : (⟨#[48, 49, 50, 51, 52, 53, 54, 55, 56, 57]⟩ : ByteArray).size = 10 := rfl
  have h1 := run_slice_string (P := Tryz.prog) w 9 ⟨#[48, 49, 50, 51, 52, 53, 54, 55, 56, 57]⟩ .i64 .i64 (u : Int) ((u : Int) + 1) Tryz.underlying9 (by omega) (by omega) (by rw [h10]; omega)
  rw [h1]
  have e1 : ((u : Int)).toNat = u := by omega
  have e2 : ((u : Int) + 1).toNat = u + 1 := by omega
  rw [e1, e2]
  rfl
set_option maxRecDepth 100000 in
set_option maxHeartbeats 2000000 in
theorem refDigitsN : ∀ (k u : Nat), u < k → u < 10000000 → ∀ w, Calls Tryz.prog 10 #[.int .i64 (u : Int)] w fun e w' => e = .returned (.string (numB (u : Int))) ∧ w = w' := by
  intro k
  induction k with
  | zero => intro u h; omega
  | succ k ih =>
    intro u hu hb w
    by_cases h : u < 10
    · have hs := numB_small h
      have SL := ten_slice u h w
      rw [hs] at SL
      generalize numB (u : Int) = tb at SL ⊢
      clear hs ih hu hb
      go_enter Tryz.func10, Tryz.ntmps10
      go_wp2
      go_ret
      exact ⟨rfl, rfl⟩
    · have h10 : 10 ≤ u := by omega
      have hs := numB_big h10
      have hz := numB_size (n := ((u / 10 : Nat) : Int)) (by omega) (by omega)
      have IH := hide (ih (u / 10) (by omega) (by omega))
      obtain ⟨q, hq⟩ : ∃ q, q = u / 10 := ⟨_, rfl⟩
      obtain ⟨r, hr⟩ : ∃ r, r = u % 10 := ⟨_, rfl⟩
      have hr10 : r < 10 := by omega
      have eq : (u : Int) / 10 = (q : Int) := by omega
      have er : (u : Int) % 10 = (r : Int) := by omega
      rw [← hq, ← hr] at hs
      rw [← hq] at IH hz
      have HS := hide hs
      have SL := ten_slice r hr10 w
      have hts : (tenB.extract r (r + 1)).size ≤ 1 := by rw [ten_at r hr10]; exact Nat.le_refl _
      generalize tenB.extract r (r + 1) = tb at SL HS hts
      clear hs ih hu hq hr h
      go_enter Tryz.func10, Tryz.ntmps10
      go_wp2_with fail
      refine (IH.out _).mono ?_
      rintro e w1 ⟨rfl, rfl⟩
      go_wp2
      go_ret
      exact ⟨congrArg (fun x => Ending.returned (.string x)) HS.out, rfl⟩
theorem refDigits {n : Int} (h0 : 0 ≤ n) (h1 : n < 1000000) (w : World) : Calls Tryz.prog 10 #[.int .i64 n] w fun e w' => e = .returned (.string (numB n)) ∧ w = w' := by
  obtain ⟨u, rfl⟩ : ∃ u : Nat, n = u := ⟨n.toNat, by omega⟩
  exact refDigitsN (u + 1) u (by omega) (by omega) w
end Go.Proofs.YtlnghfmcofmkjaaGreatDoor

namespace Go.Proofs.YtlnghfmcofmkjaaGreatDoor
open Go.RowKit

theorem numsL_snoc (l : List (List UInt8)) (x : List UInt8) : numsL (l ++ [x]) = (numsL l).bind (fun us => (numL x).map (fun u => us ++ [u])) := by
  induction l with
  | nil => simp only [List.nil_append, numsL]; cases numL x <;> rfl
  | cons y l ih =>
    simp only [List.cons_append, numsL, ih]
    cases numL y with
    | none => rfl
    | some n =>
      cases numsL l with
      | none => rfl
      | some us => cases numL x <;> rfl
theorem numsL_take {l : List (List UInt8)} {us : List Nat} (h : numsL l = some us) (k : Nat) : ∃ vs, numsL (l.take k) = some vs := by
  induction l generalizing us k with
  | nil => exact ⟨[], by simp [numsL]⟩
  | cons y l ih =>
    cases k with
    | zero => exact ⟨[], rfl⟩
    | succ k =>
      simp only [numsL] at h
      cases hy : numL y with
      | none => rw [hy] at h; cases h
      | some n =>
        rw [hy] at h
        cases hl : numsL l with
        | none => rw [hl] at h; cases h
        | some vs =>
          obtain ⟨ws, hw⟩ := ih hl k
          exact ⟨n :: ws, by rw [List.take_succ_cons, numsL, hy, hw]⟩
/-- the bytes of words -/
def wordsL (ws : List ByteArray) : List (List UInt8) := ws.map (·.data.toList)
theorem wordsL_take (ws : List ByteArray) (k : Nat) (h : k < ws.length) : (wordsL ws).take (k + 1) = (wordsL ws).take k ++ [(ws.getD k ByteArray.empty).data.toList] := by
  have hl : k < (wordsL ws).length := by simpa [wordsL] using h
  rw [List.take_succ_eq_append_getElem hl]
  simp [wordsL, List.getD, List.getElem?_eq_getElem h]
/-- the numbers of words, or none -/
def NumsPost (ws : List ByteArray) (w : World) (e : Ending) (w' : World) : Prop :=
  (∃ us v, numsL (wordsL ws) = some us ∧ e = .returned (.tuple #[v, .bool true]) ∧ w'.ownsRow w.heap.size 3 1 v us.length (us.map (fun u : Nat => Value.int .i64 (u : Int))) ∧ Below w.heap.size w w') ∨
  (numsL (wordsL ws) = none ∧ e = .returned (.tuple #[.slice none 0 0, .bool false]) ∧ Below w.heap.size w w')
set_option maxHeartbeats 4000000 in
theorem runNumbers (ws : List ByteArray) (hl : ws.length ≤ 100000) (hz : ∀ j, j < ws.length → (ws.getD j ByteArray.empty).size ≤ 1000000) (bk off c : Nat) (w : World) (hc : ∀ j, j < ws.length → w.cell? ⟨bk, off + j, none⟩ = some (.string (ws.getD j ByteArray.empty))) (hbk : bk < w.heap.size) (htab : ∀ W, Below w.heap.size w W → PowT W ∧ ErrVars W) :
    Calls Tryz.prog 49 #[.slice (some ⟨bk, off, none⟩) ws.length c] w (NumsPost ws w) := by
  obtain ⟨m, hm⟩ : ∃ m, m = ws.length := ⟨_, rfl⟩
  obtain ⟨i0, hi, hz0, hz1, hz2⟩ := info_parts Tryz.infoInt
  have Hi0 := hide hi
  have Hz0 := hide hz0
  have Hz1 := hide hz1
  have Hz2 := hide hz2
  clear hi hz0 hz1 hz2
  rw [← hm] at hl hz hc ⊢
  have HM := hide hm
  have HC := hide hc
  have HZ := hide hz
  have HT := hide htab
  clear hm hc hz htab
  go_enter Tryz.func49, Tryz.ntmps49
  go_wp2_with fail
  go_loopw [4, 11] (fun o i wr => ∃ (k : Nat) (us : List Nat), i = .int .i64 (k : Int) ∧ k ≤ m ∧ Hid (numsL ((wordsL ws).take k) = some us) ∧ us.length ≤ k ∧ wr.ownsRow w.heap.size 3 1 o us.length (us.map (fun u : Nat => Value.int .i64 (u : Int))) ∧ Below w.heap.size w wr) (fun _ i _ => 200000 - (intOf i).toNat)
  case atStart => exact ⟨0, [], rfl, by omega, hide rfl, by simp, World.ownsRow_nil _ _ _ _, Below.refl _ _⟩
  case round =>
    obtain ⟨k, us, rfl, hkm, HU, hul, hown, hbw⟩ := hrel
    obtain ⟨av, cv, rfl⟩ := own_slS hown
    have HO := hide hown
    have HBW := hide hbw
    have hyr : w.heap.size ≤ wr.heap.size := hbw.size
    by_cases hlt : k < m
    · have q0 : wr.cell? ⟨bk, off + k, none⟩ = some (.string (ws.getD k ByteArray.empty)) := (hbw.cell (p := ⟨bk, off + k, none⟩) hbk).trans (HC.out k hlt)
      have HS := hide (wordsL_take ws k (by rw [← HM.out]; exact hlt))
      have HZk := hide (HZ.out k hlt)
      obtain ⟨y, hy⟩ : ∃ y, y = ws.getD k ByteArray.empty := ⟨_, rfl⟩
      rw [← hy] at q0 HS HZk
      clear hy hown
      cases hn : numL y.data.toList with
      | none =>
        have NB := hide (runNumber_bad HZk.out hn wr (HT.out _ hbw).2 (fun W hW => (HT.out W (hbw.trans (hW.mono hyr))).1))
        have HN := hide hn
        clear hn hbw
        go_wp2_with fail
        refine NB.out.mono ?_
        rintro e w2 ⟨⟨n, rfl⟩, hb2⟩
        have HB2 := hide (HBW.out.trans (hb2.mono hyr))
        clear hb2
        go_wp2
        go_ret2
        refine .inr ⟨?_, rfl, HB2.out⟩
        cases ha : numsL (wordsL ws) with
        | none => rfl
        | some vs =>
          exfalso
          obtain ⟨xs, hx⟩ := numsL_take ha (k + 1)
          rw [HS.out, numsL_snoc, HU.out, Option.bind_some, HN.out] at hx
          cases hx
      | some u =>
        have NO := hide (runNumber_ok hn wr (fun W hW => (HT.out W (hbw.trans (hW.mono hyr))).1))
        have HN := hide hn
        clear hn hbw
        go_wp2_with fail
        refine NO.out.mono ?_
        rintro e w2 ⟨rfl, hb2⟩
        have hs2 := hb2.size
        have HB2 := hide (HBW.out.trans (hb2.mono hyr))
        have HO2 := hide (own_below HO.out hb2)
        clear hb2
        go_wp2_with (first | (at_builtin; refine wpList_append_own _ rfl _ _ 50 rfl (w.heap.size) 3 i0 _ 1 8 Tryz.underlying50 Hi0.out Hz0.out Hz1.out Hz2.out rfl (by decide) _ _ _ rfl (HO2.out.alloc _) ⟨w2.heap.size, 0, none⟩ 1 1 [.int .i64 (u : Int)] rfl rfl ?c1 ?c2 ?c3 ?c4 ?c5 ?_))
        case c1 =>
          intro j x hj
          cases j with
          | zero => simp at hj; subst hj; simp [Addr.add]
          | succ j => simp at hj
        case c2 => intro x hu; simp at hu; subst hu; rfl
        case c3 => unfold maxLen; omega
        case c4 => omega
        case c5 => first | omega | (simp; omega)
        intro v2 w40 hown2 hgrow _
        have hg0 : ∀ q, (Value.slice av us.length cv).ownBlock = some q → w.heap.size ≤ q := own_blk HO.out
        have HB40 := hide (grown_below (HB2.out.alloc (Nat.le_trans hyr hs2) _) hgrow hg0 (by simp; omega))
        have HO3 : Hid (w40.ownsRow w.heap.size 3 1 v2 (us ++ [u]).length ((us ++ [u]).map (fun u : Nat => Value.int .i64 (u : Int)))) := hide (by simpa using hown2)
        clear hown2 hgrow hg0
        go_wp2
        go_roundw
        case rel => exact ⟨k + 1, us ++ [u], by go_num, by omega, hide (by rw [HS.out, numsL_snoc, HU.out, Option.bind_some, HN.out]; rfl), by simp; omega, HO3.out, HB40.out⟩
        case measure => simp [intOf]; omega
    · obtain rfl : k = m := by omega
      have hfin : numsL (wordsL ws) = some us := by
        have := HU.out
        rwa [List.take_of_length_le (by rw [HM.out]; simp [wordsL])] at this
      have HF := hide hfin
      clear hfin hown hbw
      go_wp2
      go_ret2
      exact .inl ⟨us, _, HF.out, rfl, HO.out, HBW.out⟩
end Go.Proofs.YtlnghfmcofmkjaaGreatDoor

namespace Go.Proofs.YtlnghfmcofmkjaaGreatDoor
open Go.RowKit
theorem ObjAt.set4 {w : World} {b : Nat} {t : TypeId} {a0 a1 a2 a3 v0 v1 v2 v3 : Value} (h : ObjAt w b t [a0, a1, a2, a3]) :
    ObjAt ((((w.setCell ⟨b, 0, none⟩ v0).setCell ⟨b, 1, none⟩ v1).setCell ⟨b, 2, none⟩ v2).setCell ⟨b, 3, none⟩ v3) b t [v0, v1, v2, v3] :=
  (((h.set 0 v0).set 1 v1).set 2 v2).set 3 v3
theorem Below.set4 {B : Nat} {a w : World} {c : Nat} {v0 v1 v2 v3 : Value} (h : Below B a w) (hc : B ≤ c) :
    Below B a ((((w.setCell ⟨c, 0, none⟩ v0).setCell ⟨c, 1, none⟩ v1).setCell ⟨c, 2, none⟩ v2).setCell ⟨c, 3, none⟩ v3) :=
  (((h.setCell hc v0).setCell hc v1).setCell hc v2).setCell hc v3
theorem ObjAt.set3 {w : World} {b : Nat} {t : TypeId} {a0 a1 a2 v0 v1 v2 : Value} (h : ObjAt w b t [a0, a1, a2]) :
    ObjAt (((w.setCell ⟨b, 0, none⟩ v0).setCell ⟨b, 1, none⟩ v1).setCell ⟨b, 2, none⟩ v2) b t [v0, v1, v2] :=
  ((h.set 0 v0).set 1 v1).set 2 v2
theorem Below.set3 {B : Nat} {a w : World} {c : Nat} {v0 v1 v2 : Value} (h : Below B a w) (hc : B ≤ c) :
    Below B a (((w.setCell ⟨c, 0, none⟩ v0).setCell ⟨c, 1, none⟩ v1).setCell ⟨c, 2, none⟩ v2) :=
  ((h.setCell hc v0).setCell hc v1).setCell hc v2
theorem ObjAt.other3 {w : World} {b c : Nat} {t : TypeId} {cs : List Value} {v0 v1 v2 : Value} (h : ObjAt w b t cs) (hn : b ≠ c) :
    ObjAt (((w.setCell ⟨c, 0, none⟩ v0).setCell ⟨c, 1, none⟩ v1).setCell ⟨c, 2, none⟩ v2) b t cs :=
  ((h.setOther hn v0).setOther hn v1).setOther hn v2
theorem ObjAt.set2 {w : World} {b : Nat} {t : TypeId} {a0 a1 v0 v1 : Value} (h : ObjAt w b t [a0, a1]) :
    ObjAt ((w.setCell ⟨b, 0, none⟩ v0).setCell ⟨b, 1, none⟩ v1) b t [v0, v1] :=
  (h.set 0 v0).set 1 v1
theorem Below.set2 {B : Nat} {a w : World} {c : Nat} {v0 v1 : Value} (h : Below B a w) (hc : B ≤ c) :
    Below B a ((w.setCell ⟨c, 0, none⟩ v0).setCell ⟨c, 1, none⟩ v1) :=
  (h.setCell hc v0).setCell hc v1
theorem ObjAt.other2 {w : World} {b c : Nat} {t : TypeId} {cs : List Value} {v0 v1 : Value} (h : ObjAt w b t cs) (hn : b ≠ c) :
    ObjAt ((w.setCell ⟨c, 0, none⟩ v0).setCell ⟨c, 1, none⟩ v1) b t cs :=
  (h.setOther hn v0).setOther hn v1
theorem kcell {S : List Nat} {W w1 : World} (hk : Kept S W w1) : (∀ b o, b < W.heap.size → b ∉ S → w1.cell? ⟨b, o, none⟩ = W.cell? ⟨b, o, none⟩) ∧ (∀ b o, b < W.heap.size → b ∉ S → w1.frozen? ⟨b, o, none⟩ = W.frozen? ⟨b, o, none⟩) :=
  ⟨fun b o h hn => hk.cell (p := ⟨b, o, none⟩) h hn, fun b o h hn => hk.frozen (p := ⟨b, o, none⟩) h hn⟩
end Go.Proofs.YtlnghfmcofmkjaaGreatDoor
