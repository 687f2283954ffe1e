/- foldref2: Cut, Digits by contract. foldref2: Digits by contract. RunComes: the law's walk. -/
import Derived.Test.YtlnghfmcofmkjaaGreatDoorRunComesProofM4
import Derived.Test.YtlnghfmcofmkjaaGreatDoorRunComesProofM45
import Derived.Test.YtlnghfmcofmkjaaGreatDoorRunQ
namespace Go.Proofs.YtlnghfmcofmkjaaGreatDoor
open Go.RowKit

theorem cut_step {c : UInt8} {l : List UInt8} {f k : Nat} (hf : f ≤ k) (hn : ∀ j, f ≤ j → j < k → l[j]? ≠ some c) (hk : l[k]? = some c) : cutL c (l.drop f) = (l.drop f).take (k - f) :: cutL c (l.drop (k + 1)) := by
  obtain ⟨hlt, hget⟩ := List.getElem?_eq_some_iff.1 hk
  have e : l.drop f = (l.drop f).take (k - f) ++ c :: l.drop (k + 1) := by
    have h1 := (List.take_append_drop (k - f) (l.drop f)).symm
    have h2 : (l.drop f).drop (k - f) = c :: l.drop (k + 1) := by
      rw [List.drop_drop]
      have : f + (k - f) = k := by omega
      rw [this, List.drop_eq_getElem_cons hlt, hget]
    rw [h2] at h1
    exact h1
  have hm : ∀ x ∈ (l.drop f).take (k - f), x ≠ c := by
    intro x hx e'
    obtain ⟨i, hi, hxi⟩ := List.getElem_of_mem hx
    have hi2 : i < k - f := by rw [List.length_take] at hi; omega
    refine hn (f + i) (by omega) (by omega) ?_
    rw [← e', ← hxi, List.getElem_take, List.getElem_drop]
    exact List.getElem?_eq_getElem (by omega)
  have h3 := cutL_some (r := l.drop (k + 1)) hm
  rw [← e] at h3
  exact h3
theorem cut_end {c : UInt8} {l : List UInt8} {f : Nat} (hn : ∀ j, f ≤ j → j < l.length → l[j]? ≠ some c) : cutL c (l.drop f) = [l.drop f] := by
  refine cutL_none (fun x hx e => ?_)
  obtain ⟨i, hi, hxi⟩ := List.getElem_of_mem hx
  rw [List.length_drop] at hi
  refine hn (f + i) (by omega) (by omega) ?_
  rw [← e, ← hxi, List.getElem_drop]
  exact List.getElem?_eq_getElem (by omega)
/-- the parts of a text cut at c, in a row of the call's own -/
def CutPost (c : UInt8) (s : ByteArray) (w : World) (e : Ending) (w' : World) : Prop :=
  ∃ (v : Value) (ps : List ByteArray), ps.map (·.data.toList) = cutL c s.data.toList ∧ e = .returned v ∧ w'.ownsRow w.heap.size 9 1 v ps.length (ps.map Value.string) ∧ Below w.heap.size w w'
set_option maxHeartbeats 4000000 in
theorem refCut (c : UInt8) (s : ByteArray) (hs : s.size ≤ 1000000) (w : World) : Calls Tryz.prog 7 #[.string s, .int .u8 (c.toNat : Int)] w (CutPost c s w) := by
  obtain ⟨i0, hi, hz0, hz1, hz2⟩ := info_parts Tryz.infoStr
  have Hi0 := hide hi
  have Hz0 := hide hz0
  have Hz1 := hide hz1
  have Hz2 := hide hz2
  have hll : s.data.toList.length = s.size := by simp
  have HLL := hide hll
  clear hi hz0 hz1 hz2 hll
  go_enter Tryz.func7, Tryz.ntmps7
  go_wp2_with fail
  go_loopw [5, 6, 7] (fun o fv i wr => ∃ (k f : Nat) (ps : List ByteArray), i = .int .i64 (k : Int) ∧ fv = .int .i64 (f : Int) ∧ f ≤ k ∧ k ≤ s.size ∧ ps.length ≤ k ∧ Hid (cutL c s.data.toList = ps.map (·.data.toList) ++ cutL c (s.data.toList.drop f)) ∧ Hid (∀ j, f ≤ j → j < k → s.data.toList[j]? ≠ some c) ∧ wr.ownsRow w.heap.size 9 1 o ps.length (ps.map Value.string) ∧ Below w.heap.size w wr) (fun _ _ i _ => 2000000 - (intOf i).toNat)
  case atStart => exact ⟨0, 0, [], rfl, rfl, by omega, by omega, by simp, hide (by simp), hide (by intro j h1 h2; omega), World.ownsRow_nil _ _ _ _, Below.refl _ _⟩
  case round =>
    obtain ⟨k, f, ps, rfl, rfl, hf, hkm, hpl, HC, HN, hown, hbw⟩ := hrel
    obtain ⟨av, cv, rfl⟩ := own_slS hown
    have HO := hide hown
    have HBW := hide hbw
    have hyr : w.heap.size ≤ wr.heap.size := hbw.size
    by_cases hlt : k < s.size
    · have hget : s.data.toList[k]? = some (s[k]'hlt) := by
        rw [Array.getElem?_toList]
        exact Array.getElem?_eq_getElem hlt
      have HG := hide hget
      clear hget hown hbw
      by_cases hc : s[k]'hlt = c
      · have hb : (((s[k]'hlt).toNat : Int) == (c.toNat : Int)) = true := by rw [hc]; exact beq_self_eq_true _
        have hst := cut_step hf HN.out (by rw [HG.out, hc])
        have HS := hide hst
        clear hc hst
        go_wp2_with (first | (at_builtin; refine wpList_append_own _ rfl _ _ 23 rfl (w.heap.size) 9 i0 _ 1 16 Tryz.underlying23 Hi0.out Hz0.out Hz1.out Hz2.out rfl (by decide) _ _ _ rfl (HO.out.alloc _) ⟨wr.heap.size, 0, none⟩ 1 1 [.string (s.extract f k)] rfl rfl ?c1 ?c2 ?c3 ?c4 ?c5 ?_))
        case c1 =>
          intro j x hj
          cases j with
          | zero => simp at hj; subst hj; simp [Addr.add]
          | succ j => simp at hj
        case c2 => intro x hu; simp at hu; subst hu; rfl
        case c3 => unfold maxLen; omega
        case c4 => omega
        case c5 => first | omega | (simp; omega)
        intro v2 w40 hown2 hgrow _
        have hg0 : ∀ q, (Value.slice av ps.length cv).ownBlock = some q → w.heap.size ≤ q := own_blk HO.out
        have HB40 := hide (grown_below (HBW.out.alloc hyr _) hgrow hg0 (by simp; omega))
        have HO3 : Hid (w40.ownsRow w.heap.size 9 1 v2 (ps ++ [s.extract f k]).length ((ps ++ [s.extract f k]).map Value.string)) := hide (by simpa using hown2)
        have hpiece : (s.extract f k).data.toList = (s.data.toList.drop f).take (k - f) := by
          simp only [ByteArray.data_extract, Array.toList_extract, List.extract_eq_take_drop]
        have HP := hide hpiece
        clear hown2 hgrow hg0 hpiece
        go_wp2
        go_roundw
        case rel => exact ⟨k + 1, k + 1, ps ++ [s.extract f k], by go_num, by go_num, by omega, by omega, by simp; omega, hide (by rw [HC.out, HS.out, List.map_append, List.append_assoc, ← HP.out]; rfl), hide (by intro j h1 h2; omega), HO3.out, HB40.out⟩
        case measure => simp [intOf]; omega
      · have hb : (((s[k]'hlt).toNat : Int) == (c.toNat : Int)) = false := beq_eq_false_iff_ne.2 (fun e => hc (UInt8.toNat_inj.1 (Int.ofNat.inj e)))
        have HN2 := hide hc
        clear hc
        go_wp2
        go_roundw
        case rel => exact ⟨k + 1, f, ps, by go_num, rfl, by omega, by omega, by omega, HC, hide (by
          intro j h1 h2
          by_cases e : j = k
          · subst e
            rw [HG.out]
            exact fun e => HN2.out (Option.some.inj e)
          · exact HN.out j h1 (by omega)), HO.out, HBW.out⟩
        case measure => simp [intOf]; omega
    · obtain rfl : k = s.size := by omega
      have hce := cut_end (c := c) (l := s.data.toList) (f := f) (fun j h1 h2 => HN.out j h1 (by rw [← HLL.out]; exact h2))
      have HE := hide hce
      clear hown hbw hce
      go_wp2_with (first | (at_builtin; refine wpList_append_own _ rfl _ _ 23 rfl (w.heap.size) 9 i0 _ 1 16 Tryz.underlying23 Hi0.out Hz0.out Hz1.out Hz2.out rfl (by decide) _ _ _ rfl (HO.out.alloc _) ⟨wr.heap.size, 0, none⟩ 1 1 [.string (s.extract f s.size)] rfl rfl ?c1 ?c2 ?c3 ?c4 ?c5 ?_))
      case c1 =>
        intro j x hj
        cases j with
        | zero => simp at hj; subst hj; simp [Addr.add]
        | succ j => simp at hj
      case c2 => intro x hu; simp at hu; subst hu; rfl
      case c3 => unfold maxLen; omega
      case c4 => omega
      case c5 => first | omega | (simp; omega)
      intro v2 w40 hown2 hgrow _
      have hg0 : ∀ q, (Value.slice av ps.length cv).ownBlock = some q → w.heap.size ≤ q := own_blk HO.out
      have HB40 := hide (grown_below (HBW.out.alloc hyr _) hgrow hg0 (by simp; omega))
      have HO3 : Hid (w40.ownsRow w.heap.size 9 1 v2 (ps ++ [s.extract f s.size]).length ((ps ++ [s.extract f s.size]).map Value.string)) := hide (by simpa using hown2)
      have hpiece : (s.extract f s.size).data.toList = s.data.toList.drop f := by
        simp only [ByteArray.data_extract, Array.toList_extract, List.extract_eq_take_drop]
        rw [List.take_of_length_le (by rw [List.length_drop, HLL.out]; exact Nat.le_refl _)]
      have HP := hide hpiece
      clear hown2 hgrow hg0 hpiece
      go_wp2
      go_ret
      exact ⟨_, ps ++ [s.extract f s.size], by rw [HC.out, HE.out, List.map_append, ← HP.out]; rfl, rfl, HO3.out, HB40.out⟩
/-- the ten digits -/
def tenB : ByteArray := ⟨#[48, 49, 50, 51, 52, 53, 54, 55, 56, 57]⟩
theorem ten_at : ∀ u : Nat, u < 10 → tenB.extract u (u + 1) = ⟨#[UInt8.ofNat (48 + u)]⟩ := by
  intro u hu
  match u, hu with
  | 0, _ => rfl
  | 1, _ => rfl
  | 2, _ => rfl
  | 3, _ => rfl
  | 4, _ => rfl
  | 5, _ => rfl
  | 6, _ => rfl
  | 7, _ => rfl
  | 8, _ => rfl
  | 9, _ => rfl
theorem numB_small {u : Nat} (h : u < 10) : tenB.extract u (u + 1) = numB (u : Int) := by
  rw [ten_at u h]
  unfold numB Lib.itoa
  rw [if_neg (by omega)]
  have : ((u : Int)).toNat = u := by omega
  rw [this, Lib.decDigits, dif_pos h]
theorem numB_big {u : Nat} (h : 10 ≤ u) : numB ((u / 10 : Nat) : Int) ++ tenB.extract (u % 10) (u % 10 + 1) = numB (u : Int) := by
  rw [ten_at _ (by omega)]
  unfold numB Lib.itoa
  rw [if_neg (by omega), if_neg (by omega)]
  have e1 : (((u / 10 : Nat) : Int)).toNat = u / 10 := by omega
  have e2 : ((u : Int)).toNat = u := by omega
  rw [e1, e2, Lib.decDigits.eq_1 u, dif_neg (by omega)]
  apply ByteArray.ext
  simp
end Go.Proofs.YtlnghfmcofmkjaaGreatDoor

namespace Go.Proofs.YtlnghfmcofmkjaaGreatDoor
open Go.RowKit

theorem ten_slice (u : Nat) (h : u < 10) (w : World) : (Instr.slice 9 (.string ⟨#[48, 49, 50, 51, 52, 53, 54, 55, 56, 57]⟩) (some (.int .i64 (u : Int))) (some (.int .i64 ((u : Int) + 1))) none).run Tryz.prog w = .ok (.string (tenB.extract u (u + 1))) w := by
  have h10 : (⟨#[48, 49, 50, 51, 52, 53, 54, 55, 56, 57]⟩ : ByteArray).size = 10 := rfl
  have h1 := run_slice_string (P := Tryz.prog) w 9 ⟨#[48, 49, 50, 51, 52, 53, 54, 55, 56, 57]⟩ .i64 .i64 (u : Int) ((u : Int) + 1) Tryz.underlying9 (by omega) (by omega) (by rw [h10]; omega)
  rw [h1]
  have e1 : ((u : Int)).toNat = u := by omega
  have e2 : ((u : Int) + 1).toNat = u + 1 := by omega
  rw [e1, e2]
  rfl
set_option maxRecDepth 100000 in
set_option maxHeartbeats 2000000 in
theorem refDigitsN : ∀ (k u : Nat), u < k → u < 10000000 → ∀ w, Calls Tryz.prog 10 #[.int .i64 (u : Int)] w fun e w' => e = .returned (.string (numB (u : Int))) ∧ w = w' := by
  intro k
  induction k with
  | zero => intro u h; omega
  | succ k ih =>
    intro u hu hb w
    by_cases h : u < 10
    · have hs := numB_small h
      have SL := ten_slice u h w
      rw [hs] at SL
      generalize numB (u : Int) = tb at SL ⊢
      clear hs ih hu hb
      go_enter Tryz.func10, Tryz.ntmps10
      go_wp2
      go_ret
      exact ⟨rfl, rfl⟩
    · have h10 : 10 ≤ u := by omega
      have hs := numB_big h10
      have hz := numB_size (n := ((u / 10 : Nat) : Int)) (by omega) (by omega)
      have IH := hide (ih (u / 10) (by omega) (by omega))
      obtain ⟨q, hq⟩ : ∃ q, q = u / 10 := ⟨_, rfl⟩
      obtain ⟨r, hr⟩ : ∃ r, r = u % 10 := ⟨_, rfl⟩
      have hr10 : r < 10 := by omega
      have eq : (u : Int) / 10 = (q : Int) := by omega
      have er : (u : Int) % 10 = (r : Int) := by omega
      rw [← hq, ← hr] at hs
      rw [← hq] at IH hz
      have HS := hide hs
      have SL := ten_slice r hr10 w
      have hts : (tenB.extract r (r + 1)).size ≤ 1 := by rw [ten_at r hr10]; exact Nat.le_refl _
      generalize tenB.extract r (r + 1) = tb at SL HS hts
      clear hs ih hu hq hr h
      go_enter Tryz.func10, Tryz.ntmps10
      go_wp2_with fail
      refine (IH.out _).mono ?_
      rintro e w1 ⟨rfl, rfl⟩
      go_wp2
      go_ret
      exact ⟨congrArg (fun x => Ending.returned (.string x)) HS.out, rfl⟩
theorem refDigits {n : Int} (h0 : 0 ≤ n) (h1 : n < 1000000) (w : World) : Calls Tryz.prog 10 #[.int .i64 n] w fun e w' => e = .returned (.string (numB n)) ∧ w = w' := by
  obtain ⟨u, rfl⟩ : ∃ u : Nat, n = u := ⟨n.toNat, by omega⟩
  exact refDigitsN (u + 1) u (by omega) (by omega) w
end Go.Proofs.YtlnghfmcofmkjaaGreatDoor

namespace Go.Proofs.YtlnghfmcofmkjaaGreatDoor
open Go.RowKit

theorem runB_size0 (t : ByteArray) : (runB t).size ≤ 1000000 := by
  have e : (runB t).size = (runL t.data.toList).length := by unfold runB; rw [← List.size_toArray]; rfl
  rw [e]
  unfold runL
  split
  · decide
  · rename_i h
    have h1 : (textL t.data.toList).length ≤ 3000 := by
      unfold textL
      rw [List.length_map]
      exact Nat.le_trans (linesL_le _) (by omega)
    have h2 := linesR_le (textL t.data.toList) firstV 0 RI.first (by omega)
    omega
/-- the text's lines so far -/
def repB (b : ByteArray) : Nat → ByteArray
  | 0 => ⟨#[]⟩
  | k + 1 => ((repB b k ++ ⟨#[104, 101, 108, 108, 111, 32, 49, 32]⟩) ++ b) ++ ⟨#[10]⟩
theorem repB_size (b : ByteArray) (hb : b.size ≤ 6) (k : Nat) : (repB b k).size ≤ 15 * k := by
  induction k with
  | zero => exact Nat.le_refl _
  | succ k ih =>
    have e8 : (⟨#[104, 101, 108, 108, 111, 32, 49, 32]⟩ : ByteArray).size = 8 := rfl
    have e1 : (⟨#[10]⟩ : ByteArray).size = 1 := rfl
    simp only [repB, ByteArray.size_append, e8, e1]
    omega
/-- the first session -/
def t5B (A B : ByteArray) : ByteArray := ((((repB B 4 ++ ⟨#[104, 101, 108, 108, 111, 32]⟩) ++ A) ++ ⟨#[32]⟩) ++ B) ++ ⟨#[10]⟩
/-- the second -/
def t6B (T A R C : ByteArray) : ByteArray := ((((((T ++ ⟨#[97, 103, 97, 105, 110, 32]⟩) ++ A) ++ ⟨#[32]⟩) ++ R) ++ ⟨#[32]⟩) ++ C) ++ ⟨#[10]⟩
theorem t5B_size {A B : ByteArray} (hA : A.size ≤ 6) (hB : B.size ≤ 6) : (t5B A B).size ≤ 100 := by
  have h1 := repB_size B hB 4
  have e6 : (⟨#[104, 101, 108, 108, 111, 32]⟩ : ByteArray).size = 6 := rfl
  have e1 : (⟨#[10]⟩ : ByteArray).size = 1 := rfl
  have e2 : (⟨#[32]⟩ : ByteArray).size = 1 := rfl
  simp only [t5B, ByteArray.size_append, e6, e1, e2]
  omega
theorem t6B_size {T A R C : ByteArray} (hT : T.size ≤ 100) (hA : A.size ≤ 6) (hR : R.size ≤ 28) (hC : C.size ≤ 6) : (t6B T A R C).size ≤ 200 := by
  have e6 : (⟨#[97, 103, 97, 105, 110, 32]⟩ : ByteArray).size = 6 := rfl
  have e1 : (⟨#[10]⟩ : ByteArray).size = 1 := rfl
  have e2 : (⟨#[32]⟩ : ByteArray).size = 1 := rfl
  simp only [t6B, ByteArray.size_append, e6, e1, e2]
  omega
theorem t5B_list {a now : Int} (ha : numOk a) (hn : numOk now) : (t5B (numB a) (numB now)).data.toList = comesT a now := by
  have h1 : digL 1 = [49] := by decide
  simp [t5B, repB, comesT, oneT, helloW, rowL, h1, numB_digL ha, numB_digL hn]
theorem t6B_list {T A R C : ByteArray} {a now c g : Int} {r : List UInt8} (hT : T.data.toList = r) (hA : A.data.toList = digL a) (hR : R.data.toList = rowL [0, a, now, g]) (hC : C.data.toList = digL c) : (t6B T A R C).data.toList = r ++ (againW ++ 32 :: rowL [a, 0, a, now, g, c] ++ 10 :: []) := by
  simp [t6B, hT, hA, hR, hC, againW, rowL]
theorem numB_ok {n : Int} (h : numOk n) : 1 ≤ (numB n).size ∧ (numB n).size ≤ 6 := numB_size h.1 h.2
/-- the answers to the first session, cut -/
theorem comes_run1 {a now : Int} (ha : 0 ≤ a ∧ a ≤ 900000) (hn : 0 ≤ now ∧ now ≤ 90000) : cutL 10 (runB (t5B (numB a) (numB now))).data.toList = [wl 0, wl 1, wl 2, wl 3, rt a now, []] := by
  have na : numOk a := ⟨by omega, by omega⟩
  have nn : numOk now := ⟨by omega, by omega⟩
  have e : (runB (t5B (numB a) (numB now))).data.toList = comesW a now [] := by
    have h1 := comes_run ha hn []
    rw [List.append_nil] at h1
    unfold runB runL
    rw [t5B_list na nn, if_neg (by have := comes_len a now na nn; omega)]
    rw [h1]
    rfl
  rw [e, comes_cut na nn]
  rfl
/-- the answers to the second, cut -/
theorem comes_run2 {a now later : Int} {T : ByteArray} (ha : 0 ≤ a ∧ a ≤ 900000) (hn : 0 ≤ now ∧ now ≤ 90000) (hl : 0 ≤ later ∧ later ≤ 50) (hT : T.size ≤ 300) (hl2 : T.data.toList = comesT a now ++ (againW ++ 32 :: rowL [a, 0, a, now, tagOf (tagOf 7 [0]) [1, a, now], now + later] ++ 10 :: [])) :
    cutL 10 (runB T).data.toList = [wl 0, wl 1, wl 2, wl 3, rt a now, wl 4, []] := by
  have na : numOk a := ⟨by omega, by omega⟩
  have nn : numOk now := ⟨by omega, by omega⟩
  have hsz : T.data.toList.length = T.size := by simp
  have e : (runB T).data.toList = comesW a now (wl 4 ++ 10 :: []) := by
    unfold runB runL
    rw [if_neg (by omega), hl2, comes_run ha hn, comes_again ha hn hl]
  rw [e, comes_cut na nn, cutL_some (wl_no10 4 (by decide))]
  rfl
theorem map_six {ps : List ByteArray} {l0 l1 l2 l3 l4 l5 : List UInt8} (h : ps.map (·.data.toList) = [l0, l1, l2, l3, l4, l5]) : ∃ p0 p1 p2 p3 p4 p5 : ByteArray, ps = [p0, p1, p2, p3, p4, p5] ∧ p4.data.toList = l4 := by
  match ps, h with
  | [p0, p1, p2, p3, p4, p5], h =>
    simp only [List.map_cons, List.map_nil, List.cons.injEq, and_true] at h
    exact ⟨p0, p1, p2, p3, p4, p5, rfl, h.2.2.2.2.1⟩
theorem map_seven {ps : List ByteArray} {l0 l1 l2 l3 l4 l5 l6 : List UInt8} (h : ps.map (·.data.toList) = [l0, l1, l2, l3, l4, l5, l6]) : ∃ p0 p1 p2 p3 p4 p5 p6 : ByteArray, ps = [p0, p1, p2, p3, p4, p5, p6] ∧ p5.data.toList = l5 := by
  match ps, h with
  | [p0, p1, p2, p3, p4, p5, p6], h =>
    simp only [List.map_cons, List.map_nil, List.cons.injEq, and_true] at h
    exact ⟨p0, p1, p2, p3, p4, p5, p6, rfl, h.2.2.2.2.2.1⟩
theorem rt_parts {p : ByteArray} {a now : Int} (ha : numOk a) (hn : numOk now) (h : p.data.toList = rt a now) : 7 ≤ p.size ∧ p.size ≤ 34 ∧ p.extract 0 6 = ⟨#[114, 101, 116, 114, 121, 32]⟩ ∧ (p.extract 6 p.size).data.toList = rowL [0, a, now, tagOf (tagOf 7 [0]) [1, a, now]] := by
  have hsz : p.data.toList.length = p.size := by simp
  have hrow : rowOk 0 a now (tagOf (tagOf 7 [0]) [1, a, now]) := ⟨ok0, ha, hn, tag_ok _ _⟩
  have h1 := row4_le hrow
  have h2 := rowL_len (n := 0) (r := [a, now, tagOf (tagOf 7 [0]) [1, a, now]]) ok0
  have h3 : p.size = 6 + (rowL [0, a, now, tagOf (tagOf 7 [0]) [1, a, now]]).length := by rw [← hsz, h]; simp [rt, retW]; omega
  refine ⟨by omega, by omega, ?_, ?_⟩
  · apply ba_of_list
    simp [h, rt, retW]
  · simp only [ByteArray.data_extract, Array.toList_extract, List.extract_eq_take_drop, h, rt]
    rw [List.drop_append, List.take_of_length_le (by simp [retW]; omega)]
    simp [retW]
theorem wl_parts {p : ByteArray} {i : Int} (hi : 0 ≤ i ∧ i < 4096) (h : p.data.toList = wl i) : 8 < p.size ∧ p.size ≤ 20 ∧ p.extract 0 8 = ⟨#[119, 101, 108, 99, 111, 109, 101, 32]⟩ := by
  have hsz : p.data.toList.length = p.size := by simp
  have hk := connN_ok i hi
  have h1 := digL_len hk
  have h2 := digL_ne hk
  have h3 : 1 ≤ (digL (connN 0 i)).length := by
    cases hd : digL (connN 0 i) with
    | nil => exact absurd hd h2
    | cons x l => simp
  have h4 : p.size = 8 + (digL (connN 0 i)).length := by rw [← hsz, h]; simp [wl, welW]; omega
  refine ⟨by omega, by omega, ?_⟩
  apply ba_of_list
  simp [h, wl, welW]
def rangeB : ByteArray := ⟨#[104, 101, 108, 108, 111, 32, 51, 32, 57, 57, 57, 57, 57, 57, 10]⟩
theorem range_runB : runB rangeB = ⟨#[69, 114, 114, 82, 97, 110, 103, 101, 10]⟩ := by
  have h : rangeB.data.toList = [104, 101, 108, 108, 111, 32, 51, 32, 57, 57, 57, 57, 57, 57, 10] := rfl
  unfold runB
  rw [h, range_run]
/-- what holds of the texts, plainly -/
structure PlainC (a now later : Int) (A B C : ByteArray) : Prop where
  c1 : cutL 10 (runB (t5B A B)).data.toList = [wl 0, wl 1, wl 2, wl 3, rt a now, []]
  c2 : ∀ T : ByteArray, T.size ≤ 300 → T.data.toList = comesT a now ++ (againW ++ 32 :: rowL [a, 0, a, now, tagOf (tagOf 7 [0]) [1, a, now], now + later] ++ 10 :: []) → cutL 10 (runB T).data.toList = [wl 0, wl 1, wl 2, wl 3, rt a now, wl 4, []]
  t5 : (t5B A B).data.toList = comesT a now
  la : A.data.toList = digL a
  lc : C.data.toList = digL (now + later)
  na : numOk a
  nn : numOk now
theorem plainC {a now later : Int} (ha : 0 ≤ a ∧ a ≤ 900000) (hn : 0 ≤ now ∧ now ≤ 90000) (hl : 0 ≤ later ∧ later ≤ 50) : PlainC a now later (numB a) (numB now) (numB (now + later)) := by
  have na : numOk a := ⟨by omega, by omega⟩
  have nn : numOk now := ⟨by omega, by omega⟩
  exact ⟨comes_run1 ha hn, fun T => comes_run2 ha hn hl, t5B_list na nn, numB_digL na, numB_digL ⟨by omega, by omega⟩, na, nn⟩
end Go.Proofs.YtlnghfmcofmkjaaGreatDoor
