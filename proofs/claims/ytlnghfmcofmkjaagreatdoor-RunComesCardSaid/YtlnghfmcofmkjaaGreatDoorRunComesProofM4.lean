/- A row of the call's own that holds integers. run: row, numbers by contract. run: numbers by contract. Objects of four cells, stored anew. -/
import Derived.Test.YtlnghfmcofmkjaaGreatDoorRunComesProofM3
import Derived.Test.YtlnghfmcofmkjaaGreatDoorObj
import Derived.Laws.OwnMore
import Derived.OwnWalk
import Derived.Maps.AppendAt
namespace Go.Proofs.YtlnghfmcofmkjaaGreatDoor
open Go.RowKit

theorem Tryz.infoInt : (Tryz.prog.info? 3).map (fun i => (i.zero, i.size, i.bytes)) = some (some (.int .i64 0), 1, 8) := by kernel_rfl

theorem getD_map_int (zs : List Int) (i : Nat) (h : i < zs.length) : (zs.map (Value.int .i64))[i]? = some (.int .i64 (zs.getD i 0)) := by
  simp [List.getElem?_map, List.getElem?_eq_getElem h, List.getD]
/-- the row's cells as they are read -/
theorem own_cells {w : World} {base : Nat} {e : TypeId} {g n cap : Nat} {zs : List Int} (h : w.ownsRow base e 1 (.slice (some ⟨g, 0, none⟩) n cap) n (zs.map (Value.int .i64))) :
    zs.length = n ∧ ∀ i, i < n → w.cell? ⟨g, 0 + i, none⟩ = some (.int .i64 (zs.getD i 0)) := by
  have hl : zs.length = n := by have := h.1; simpa using this
  exact ⟨hl, fun i hi => by rw [Nat.zero_add, h.cellAt i (by omega), getD_map_int zs i (by omega)]⟩
theorem own_introw {w : World} {base : Nat} {e : TypeId} {v : Value} {n : Nat} {zs : List Int} (h : w.ownsRow base e 1 v n (zs.map (Value.int .i64))) (hw : ∀ z ∈ zs, (Lit.int .i64 z).wf = true) :
    ∃ a c, v = .slice a n c ∧ n ≤ c ∧ c ≤ maxLen ∧ IntRow w a n zs := by
  have hl : zs.length = n := by have := h.1; simpa using this
  rcases h.2 with ⟨rfl, rfl⟩ | ⟨g, cap, cur, rfl, _, hg, hnc, hcm, _, _⟩
  · exact ⟨none, 0, rfl, Nat.le_refl _, by simp [maxLen], hl, by simp [maxLen], hw, .inl rfl⟩
  · refine ⟨some ⟨g, 0, none⟩, cap, rfl, hnc, hcm, hl, Nat.le_trans hnc hcm, hw, .inr ⟨g, 0, rfl, lt_of_block hg, fun i j hi hj => ?_⟩⟩
    have := (own_cells h).2 i hi
    obtain rfl : j = 0 := by omega
    simpa using this
theorem set_map_int (zs : List Int) (k : Nat) (n : Int) : (zs.map (Value.int .i64)).set k (.int .i64 n) = (zs.set k n).map (Value.int .i64) := by rw [List.map_set]
theorem ints_oneCell (zs : List Int) : ∀ u ∈ zs.map (Value.int .i64), u.oneCell' = true := by
  intro u hu
  obtain ⟨z, _, rfl⟩ := List.mem_map.1 hu
  rfl
theorem own_form {w : World} {base size n : Nat} {e : TypeId} {v : Value} {xs : List Value} (h : w.ownsRow base e size v n xs) (hn : 0 < n) : ∃ g cap, v = .slice (some ⟨g, 0, none⟩) n cap ∧ base ≤ g ∧ g < w.heap.size ∧ n ≤ cap ∧ cap ≤ maxLen := by
  rcases h.2 with ⟨_, h0⟩ | ⟨g, cap, cur, hv, hb, hg, hnc, hcm, _, _⟩
  · omega
  · exact ⟨g, cap, hv, hb, lt_of_block hg, hnc, hcm⟩
theorem own_below {w w' : World} {base size n : Nat} {e : TypeId} {v : Value} {xs : List Value} (h : w.ownsRow base e size v n xs) (hb : Below w.heap.size w w') : w'.ownsRow base e size v n xs :=
  h.kept (row := none) ⟨hb.os, hb.tape, hb.output, hb.size, fun k hk _ => hb.block k hk⟩ (by cases v.ownBlock <;> simp)
theorem own_kept {S : List Nat} {w w' : World} {base size n : Nat} {e : TypeId} {v : Value} {xs : List Value} (h : w.ownsRow base e size v n xs) (hk : Kept S w w') (hS : ∀ x, x ∈ S → x < base) : w'.ownsRow base e size v n xs := by
  refine ⟨h.1, ?_⟩
  rcases h.2 with h2 | ⟨g, cap, cur, h1, h2, h3, h4⟩
  · exact .inl h2
  · exact .inr ⟨g, cap, cur, h1, h2, (hk.block g (lt_of_block h3) (fun hx => by have := hS g hx; omega)).trans h3, h4⟩
theorem own_slice {w : World} {base n : Nat} {e : TypeId} {v : Value} {zs : List Int} (h : w.ownsRow base e 1 v n (zs.map (Value.int .i64))) :
    ∃ a c, v = .slice a n c ∧ n ≤ c ∧ c ≤ maxLen ∧ (n = 0 ∨ ∃ g, a = some ⟨g, 0, none⟩ ∧ base ≤ g ∧ g < w.heap.size ∧ ∀ i, i < n → w.cell? ⟨g, i, none⟩ = some (.int .i64 (zs.getD i 0))) := by
  rcases h.2 with ⟨rfl, rfl⟩ | ⟨g, cap, cur, rfl, hb, hg, hnc, hcm, _, _⟩
  · exact ⟨none, 0, rfl, Nat.le_refl _, by simp [maxLen], .inl rfl⟩
  · refine ⟨some ⟨g, 0, none⟩, cap, rfl, hnc, hcm, .inr ⟨g, rfl, hb, lt_of_block hg, fun i hi => ?_⟩⟩
    have := (own_cells h).2 i hi
    simpa using this
theorem grown_obj {w w' : World} {row : Option Nat} {b : Nat} {t : TypeId} {cs : List Value} (hg : w.grownBy w' row) (ho : ObjAt w b t cs) (hn : ∀ k, row = some k → k ≠ b) : ObjAt w' b t cs :=
  (hg.block b ho.lt (fun e => hn b e.symm rfl)).trans ho
theorem grown_below {B : Nat} {a w w' : World} {row : Option Nat} (h : Below B a w) (hg : w.grownBy w' row) (hr : ∀ k, row = some k → B ≤ k) (hB : B ≤ w.heap.size) : Below B a w' :=
  ⟨hg.os.trans h.os, hg.tape.trans h.tape, hg.output.trans h.output, Nat.le_trans h.size hg.size, fun k hk => (hg.block k (Nat.lt_of_lt_of_le hk hB) (fun e => by have := hr k e.symm; omega)).trans (h.block k hk)⟩
theorem own_blk {w : World} {base size n : Nat} {e : TypeId} {v : Value} {xs : List Value} (h : w.ownsRow base e size v n xs) : ∀ k, v.ownBlock = some k → base ≤ k := fun k hk => (h.lt k hk).1
end Go.Proofs.YtlnghfmcofmkjaaGreatDoor

namespace Go.Proofs.YtlnghfmcofmkjaaGreatDoor
open Go.RowKit

theorem Tryz.infoStr : (Tryz.prog.info? 9).map (fun i => (i.zero, i.size, i.bytes)) = some (some (.string ByteArray.empty), 1, 16) := by kernel_rfl
/-- a number that a row may hold -/
def numOk (n : Int) : Prop := 0 ≤ n ∧ n < 1000000
/-- a row of numerals, as bytes -/
def rowB (ns : List Int) : ByteArray := ⟨(rowL ns).toArray⟩
theorem rowL_join : ∀ ns : List Int, Lib.join (ns.map digL) [32] = rowL ns := by
  intro ns
  induction ns with
  | nil => rfl
  | cons n ns ih =>
    cases ns with
    | nil => rw [List.map_cons, List.map_nil, Lib.join_one]; rfl
    | cons m r =>
      rw [List.map_cons, List.map_cons, Lib.join_cons, rowL, ← ih, List.map_cons, Lib.join_cons]
      simp [Lib.joinTail]
theorem numB_digL {n : Int} (h : numOk n) : (numB n).data.toList = digL n := by
  unfold numB
  rw [digL_itoa h.1 (by have := h.2; omega)]
theorem rowL_le (ns : List Int) (hk : ∀ n ∈ ns, numOk n) : (rowL ns).length ≤ 7 * ns.length := by
  have hd : ∀ n, numOk n → (digL n).length ≤ 6 := fun n h => by
    have h1 := (numB_size h.1 h.2).2
    have h2 : (numB n).data.toList.length = (numB n).size := by simp
    rw [numB_digL h] at h2
    omega
  induction ns with
  | nil => simp [rowL]
  | cons n ns ih =>
    have h1 := hd n (hk n (by simp))
    have h2 := ih (fun x hx => hk x (by simp [hx]))
    cases ns with
    | nil => simp [rowL]; omega
    | cons m r => rw [rowL]; simp at h2 ⊢; omega
theorem own_slS {w : World} {base n size : Nat} {e : TypeId} {v : Value} {xs : List Value} (h : w.ownsRow base e size v n xs) : ∃ a c, v = .slice a n c := by
  rcases h.2 with ⟨rfl, rfl⟩ | ⟨g, cap, cur, rfl, _⟩
  · exact ⟨none, 0, rfl⟩
  · exact ⟨_, cap, rfl⟩
theorem take_numB (ns : List Int) (k : Nat) (h : k < ns.length) : (ns.take (k + 1)).map (fun n => Value.string (numB n)) = (ns.take k).map (fun n => Value.string (numB n)) ++ [.string (numB (ns.getD k 0))] := by
  rw [List.take_succ_eq_append_getElem h, List.map_append]
  simp [List.getD, List.getElem?_eq_getElem h]
set_option maxHeartbeats 4000000 in
theorem runRow {ns : List Int} (hk : ∀ n ∈ ns, numOk n) (hl1 : 1 ≤ ns.length) (hl : ns.length ≤ 100) (bk c : Nat) (w : World) (hc : ∀ j, j < ns.length → w.cell? ⟨bk, j, none⟩ = some (.int .i64 (ns.getD j 0))) (hbk : bk < w.heap.size) (htab : ∀ W, Below w.heap.size w W → PowT W) :
    Calls Tryz.prog 68 #[.slice (some ⟨bk, 0, none⟩) ns.length c] w fun e w' => e = .returned (.string (rowB ns)) ∧ Below w.heap.size w w' := by
  obtain ⟨m, hm⟩ : ∃ m, m = ns.length := ⟨_, rfl⟩
  obtain ⟨i0, hi, hz0, hz1, hz2⟩ := info_parts Tryz.infoStr
  have Hi0 := hide hi
  have Hz0 := hide hz0
  have Hz1 := hide hz1
  have Hz2 := hide hz2
  clear hi hz0 hz1 hz2
  rw [← hm] at hl hl1 hc ⊢
  have HM := hide hm
  have HC := hide hc
  have HK := hide hk
  have HT := hide htab
  have IT : Hid (∀ k, k < m → ∀ W, Below w.heap.size w W → Calls Tryz.prog 86 #[.int .i64 (ns.getD k 0)] W fun e w' => e = .returned (.string (numB (ns.getD k 0))) ∧ Below W.heap.size W w') := hide (fun k hk' W hW => by
    have hmem : ns.getD k 0 ∈ ns := by
      rw [hm] at hk'
      simp [List.getD, List.getElem?_eq_getElem hk']
    have h1 := hk _ hmem
    exact itoa_eq h1.1 h1.2 W (htab W hW))
  clear hm hc hk htab
  go_enter Tryz.func68, Tryz.ntmps68
  go_wp2_with fail
  go_loopw [3, 8] (fun o i wr => ∃ k : Nat, i = .int .i64 (k : Int) ∧ k ≤ m ∧ wr.ownsRow w.heap.size 9 1 o k ((ns.take k).map (fun n => Value.string (numB n))) ∧ Below w.heap.size w wr) (fun _ i _ => 2000 - (intOf i).toNat)
  case atStart => exact ⟨0, rfl, by omega, World.ownsRow_nil _ _ _ _, Below.refl _ _⟩
  case round =>
    obtain ⟨k, rfl, hkm, hown, hbw⟩ := hrel
    obtain ⟨av, cv, rfl⟩ := own_slS hown
    have HO := hide hown
    have HBW := hide hbw
    have hyr : w.heap.size ≤ wr.heap.size := hbw.size
    by_cases hlt : k < m
    · have q0 : wr.cell? ⟨bk, k, none⟩ = some (.int .i64 (ns.getD k 0)) := (hbw.cell (p := ⟨bk, k, none⟩) hbk).trans (HC.out k hlt)
      have I1 := hide (IT.out k hlt wr hbw)
      have HS := hide (take_numB ns k (by rw [← HM.out]; exact hlt))
      obtain ⟨y, hy⟩ : ∃ y, y = ns.getD k 0 := ⟨_, rfl⟩
      rw [← hy] at q0 I1 HS
      clear hy hown hbw
      go_wp2_with fail
      refine I1.out.mono ?_
      rintro e w2 ⟨rfl, hb2⟩
      have hs2 := hb2.size
      have HB2 := hide (HBW.out.trans (hb2.mono hyr))
      have HO2 := hide (own_below HO.out hb2)
      clear hb2
      go_wp2_with (first | (at_builtin; refine wpList_append_own _ rfl _ _ 23 rfl (w.heap.size) 9 i0 _ 1 16 Tryz.underlying23 Hi0.out Hz0.out Hz1.out Hz2.out rfl (by decide) _ _ _ rfl (HO2.out.alloc _) ⟨w2.heap.size, 0, none⟩ 1 1 [.string (numB y)] rfl rfl ?c1 ?c2 ?c3 ?c4 ?c5 ?_))
      case c1 =>
        intro j u hj
        cases j with
        | zero => simp at hj; subst hj; simp [Addr.add]
        | succ j => simp at hj
      case c2 => intro u hu; simp at hu; subst hu; rfl
      case c3 => unfold maxLen; omega
      case c4 => omega
      case c5 => first | omega | (simp; omega)
      intro v2 w40 hown2 hgrow _
      have hg0 : ∀ q, (Value.slice av k cv).ownBlock = some q → w.heap.size ≤ q := own_blk HO.out
      have HB40 := hide (grown_below (HB2.out.alloc (Nat.le_trans hyr hs2) _) hgrow hg0 (by simp; omega))
      have HO3 : Hid (w40.ownsRow w.heap.size 9 1 v2 (k + 1) ((ns.take (k + 1)).map (fun n => Value.string (numB n)))) := hide (by rw [HS.out, List.map_take]; exact hown2)
      clear hown2 hgrow hg0
      go_wp2
      go_roundw
      case rel => exact ⟨k + 1, by go_num, by omega, HO3.out, HB40.out⟩
      case measure => simp [intOf]; omega
    · obtain rfl : k = m := by omega
      have JN : Hid (Calls Tryz.prog 94 #[.slice av k cv, .string ⟨#[32]⟩] wr fun e w' => e = .returned (.string (rowB ns)) ∧ Below wr.heap.size wr w') := hide (by
        obtain ⟨g, cap, hv, hbg, hgl, hcap, _⟩ := own_form HO.out hl1
        rw [hv]
        have hx : (ns.map numB).length = k := by rw [List.length_map, HM.out]
        have h1 := Tryz.strings_Join g 0 cap (ns.map numB) ⟨#[32]⟩ wr (fun j x hj => by
          have hj2 := (List.getElem?_eq_some_iff.1 hj).1
          rw [hx] at hj2
          have h2 := HO.out
          rw [hv] at h2
          rw [Nat.zero_add, h2.cellAt j (by omega), List.take_of_length_le (by rw [← HM.out]; exact Nat.le_refl _), List.getElem?_map]
          rw [List.getElem?_map] at hj
          cases hn : ns[j]? with
          | none => rw [hn] at hj; cases hj
          | some n => rw [hn] at hj; simp at hj; simp [hj]) hgl (by rw [hx]; omega) (by rw [hx]; exact hcap) ?_
        · rw [hx] at h1
          have e : (ns.map numB).map (·.data.toList) = ns.map digL := by
            rw [List.map_map]
            exact List.map_congr_left (fun n hn => numB_digL (HK.out n hn))
          rw [e] at h1
          have e2 : Lib.join (ns.map digL) [32] = rowL ns := rowL_join ns
          have e3 : (⟨(Lib.join (ns.map digL) (⟨#[32]⟩ : ByteArray).data.toList).toArray⟩ : ByteArray) = rowB ns := by
            unfold rowB; rw [← e2]
          rw [e3] at h1
          exact h1
        · have e : (ns.map numB).map (·.data.toList) = ns.map digL := by
            rw [List.map_map]
            exact List.map_congr_left (fun n hn => numB_digL (HK.out n hn))
          rw [e]
          have e2 : Lib.join (ns.map digL) (⟨#[32]⟩ : ByteArray).data.toList = rowL ns := rowL_join ns
          rw [e2]
          have := rowL_le ns HK.out
          rw [← HM.out] at this
          omega)
      clear hown hbw
      go_wp2_with fail
      refine JN.out.mono ?_
      rintro e w2 ⟨rfl, hb2⟩
      have HB2 := hide (HBW.out.trans (hb2.mono hyr))
      clear hb2
      go_wp2
      go_ret
      exact ⟨rfl, HB2.out⟩
end Go.Proofs.YtlnghfmcofmkjaaGreatDoor

namespace Go.Proofs.YtlnghfmcofmkjaaGreatDoor
open Go.RowKit

theorem numsL_snoc (l : List (List UInt8)) (x : List UInt8) : numsL (l ++ [x]) = (numsL l).bind (fun us => (numL x).map (fun u => us ++ [u])) := by
  induction l with
  | nil => simp only [List.nil_append, numsL]; cases numL x <;> rfl
  | cons y l ih =>
    simp only [List.cons_append, numsL, ih]
    cases numL y with
    | none => rfl
    | some n =>
      cases numsL l with
      | none => rfl
      | some us => cases numL x <;> rfl
theorem numsL_take {l : List (List UInt8)} {us : List Nat} (h : numsL l = some us) (k : Nat) : ∃ vs, numsL (l.take k) = some vs := by
  induction l generalizing us k with
  | nil => exact ⟨[], by simp [numsL]⟩
  | cons y l ih =>
    cases k with
    | zero => exact ⟨[], rfl⟩
    | succ k =>
      simp only [numsL] at h
      cases hy : numL y with
      | none => rw [hy] at h; cases h
      | some n =>
        rw [hy] at h
        cases hl : numsL l with
        | none => rw [hl] at h; cases h
        | some vs =>
          obtain ⟨ws, hw⟩ := ih hl k
          exact ⟨n :: ws, by rw [List.take_succ_cons, numsL, hy, hw]⟩
/-- the bytes of words -/
def wordsL (ws : List ByteArray) : List (List UInt8) := ws.map (·.data.toList)
theorem wordsL_take (ws : List ByteArray) (k : Nat) (h : k < ws.length) : (wordsL ws).take (k + 1) = (wordsL ws).take k ++ [(ws.getD k ByteArray.empty).data.toList] := by
  have hl : k < (wordsL ws).length := by simpa [wordsL] using h
  rw [List.take_succ_eq_append_getElem hl]
  simp [wordsL, List.getD, List.getElem?_eq_getElem h]
/-- the numbers of words, or none -/
def NumsPost (ws : List ByteArray) (w : World) (e : Ending) (w' : World) : Prop :=
  (∃ us v, numsL (wordsL ws) = some us ∧ e = .returned (.tuple #[v, .bool true]) ∧ w'.ownsRow w.heap.size 3 1 v us.length (us.map (fun u : Nat => Value.int .i64 (u : Int))) ∧ Below w.heap.size w w') ∨
  (numsL (wordsL ws) = none ∧ e = .returned (.tuple #[.slice none 0 0, .bool false]) ∧ Below w.heap.size w w')
set_option maxHeartbeats 4000000 in
theorem runNumbers (ws : List ByteArray) (hl : ws.length ≤ 100000) (hz : ∀ j, j < ws.length → (ws.getD j ByteArray.empty).size ≤ 1000000) (bk off c : Nat) (w : World) (hc : ∀ j, j < ws.length → w.cell? ⟨bk, off + j, none⟩ = some (.string (ws.getD j ByteArray.empty))) (hbk : bk < w.heap.size) (htab : ∀ W, Below w.heap.size w W → PowT W ∧ ErrVars W) :
    Calls Tryz.prog 49 #[.slice (some ⟨bk, off, none⟩) ws.length c] w (NumsPost ws w) := by
  obtain ⟨m, hm⟩ : ∃ m, m = ws.length := ⟨_, rfl⟩
  obtain ⟨i0, hi, hz0, hz1, hz2⟩ := info_parts Tryz.infoInt
  have Hi0 := hide hi
  have Hz0 := hide hz0
  have Hz1 := hide hz1
  have Hz2 := hide hz2
  clear hi hz0 hz1 hz2
  rw [← hm] at hl hz hc ⊢
  have HM := hide hm
  have HC := hide hc
  have HZ := hide hz
  have HT := hide htab
  clear hm hc hz htab
  go_enter Tryz.func49, Tryz.ntmps49
  go_wp2_with fail
  go_loopw [4, 11] (fun o i wr => ∃ (k : Nat) (us : List Nat), i = .int .i64 (k : Int) ∧ k ≤ m ∧ Hid (numsL ((wordsL ws).take k) = some us) ∧ us.length ≤ k ∧ wr.ownsRow w.heap.size 3 1 o us.length (us.map (fun u : Nat => Value.int .i64 (u : Int))) ∧ Below w.heap.size w wr) (fun _ i _ => 200000 - (intOf i).toNat)
  case atStart => exact ⟨0, [], rfl, by omega, hide rfl, by simp, World.ownsRow_nil _ _ _ _, Below.refl _ _⟩
  case round =>
    obtain ⟨k, us, rfl, hkm, HU, hul, hown, hbw⟩ := hrel
    obtain ⟨av, cv, rfl⟩ := own_slS hown
    have HO := hide hown
    have HBW := hide hbw
    have hyr : w.heap.size ≤ wr.heap.size := hbw.size
    by_cases hlt : k < m
    · have q0 : wr.cell? ⟨bk, off + k, none⟩ = some (.string (ws.getD k ByteArray.empty)) := (hbw.cell (p := ⟨bk, off + k, none⟩) hbk).trans (HC.out k hlt)
      have HS := hide (wordsL_take ws k (by rw [← HM.out]; exact hlt))
      have HZk := hide (HZ.out k hlt)
      obtain ⟨y, hy⟩ : ∃ y, y = ws.getD k ByteArray.empty := ⟨_, rfl⟩
      rw [← hy] at q0 HS HZk
      clear hy hown
      cases hn : numL y.data.toList with
      | none =>
        have NB := hide (runNumber_bad HZk.out hn wr (HT.out _ hbw).2 (fun W hW => (HT.out W (hbw.trans (hW.mono hyr))).1))
        have HN := hide hn
        clear hn hbw
        go_wp2_with fail
        refine NB.out.mono ?_
        rintro e w2 ⟨⟨n, rfl⟩, hb2⟩
        have HB2 := hide (HBW.out.trans (hb2.mono hyr))
        clear hb2
        go_wp2
        go_ret2
        refine .inr ⟨?_, rfl, HB2.out⟩
        cases ha : numsL (wordsL ws) with
        | none => rfl
        | some vs =>
          exfalso
          obtain ⟨xs, hx⟩ := numsL_take ha (k + 1)
          rw [HS.out, numsL_snoc, HU.out, Option.bind_some, HN.out] at hx
          cases hx
      | some u =>
        have NO := hide (runNumber_ok hn wr (fun W hW => (HT.out W (hbw.trans (hW.mono hyr))).1))
        have HN := hide hn
        clear hn hbw
        go_wp2_with fail
        refine NO.out.mono ?_
        rintro e w2 ⟨rfl, hb2⟩
        have hs2 := hb2.size
        have HB2 := hide (HBW.out.trans (hb2.mono hyr))
        have HO2 := hide (own_below HO.out hb2)
        clear hb2
        go_wp2_with (first | (at_builtin; refine wpList_append_own _ rfl _ _ 50 rfl (w.heap.size) 3 i0 _ 1 8 Tryz.underlying50 Hi0.out Hz0.out Hz1.out Hz2.out rfl (by decide) _ _ _ rfl (HO2.out.alloc _) ⟨w2.heap.size, 0, none⟩ 1 1 [.int .i64 (u : Int)] rfl rfl ?c1 ?c2 ?c3 ?c4 ?c5 ?_))
        case c1 =>
          intro j x hj
          cases j with
          | zero => simp at hj; subst hj; simp [Addr.add]
          | succ j => simp at hj
        case c2 => intro x hu; simp at hu; subst hu; rfl
        case c3 => unfold maxLen; omega
        case c4 => omega
        case c5 => first | omega | (simp; omega)
        intro v2 w40 hown2 hgrow _
        have hg0 : ∀ q, (Value.slice av us.length cv).ownBlock = some q → w.heap.size ≤ q := own_blk HO.out
        have HB40 := hide (grown_below (HB2.out.alloc (Nat.le_trans hyr hs2) _) hgrow hg0 (by simp; omega))
        have HO3 : Hid (w40.ownsRow w.heap.size 3 1 v2 (us ++ [u]).length ((us ++ [u]).map (fun u : Nat => Value.int .i64 (u : Int)))) := hide (by simpa using hown2)
        clear hown2 hgrow hg0
        go_wp2
        go_roundw
        case rel => exact ⟨k + 1, us ++ [u], by go_num, by omega, hide (by rw [HS.out, numsL_snoc, HU.out, Option.bind_some, HN.out]; rfl), by simp; omega, HO3.out, HB40.out⟩
        case measure => simp [intOf]; omega
    · obtain rfl : k = m := by omega
      have hfin : numsL (wordsL ws) = some us := by
        have := HU.out
        rwa [List.take_of_length_le (by rw [HM.out]; simp [wordsL])] at this
      have HF := hide hfin
      clear hfin hown hbw
      go_wp2
      go_ret2
      exact .inl ⟨us, _, HF.out, rfl, HO.out, HBW.out⟩
end Go.Proofs.YtlnghfmcofmkjaaGreatDoor

namespace Go.Proofs.YtlnghfmcofmkjaaGreatDoor
open Go.RowKit
theorem ObjAt.set4 {w : World} {b : Nat} {t : TypeId} {a0 a1 a2 a3 v0 v1 v2 v3 : Value} (h : ObjAt w b t [a0, a1, a2, a3]) :
    ObjAt ((((w.setCell ⟨b, 0, none⟩ v0).setCell ⟨b, 1, none⟩ v1).setCell ⟨b, 2, none⟩ v2).setCell ⟨b, 3, none⟩ v3) b t [v0, v1, v2, v3] :=
  (((h.set 0 v0).set 1 v1).set 2 v2).set 3 v3
theorem Below.set4 {B : Nat} {a w : World} {c : Nat} {v0 v1 v2 v3 : Value} (h : Below B a w) (hc : B ≤ c) :
    Below B a ((((w.setCell ⟨c, 0, none⟩ v0).setCell ⟨c, 1, none⟩ v1).setCell ⟨c, 2, none⟩ v2).setCell ⟨c, 3, none⟩ v3) :=
  (((h.setCell hc v0).setCell hc v1).setCell hc v2).setCell hc v3
theorem ObjAt.set3 {w : World} {b : Nat} {t : TypeId} {a0 a1 a2 v0 v1 v2 : Value} (h : ObjAt w b t [a0, a1, a2]) :
    ObjAt (((w.setCell ⟨b, 0, none⟩ v0).setCell ⟨b, 1, none⟩ v1).setCell ⟨b, 2, none⟩ v2) b t [v0, v1, v2] :=
  ((h.set 0 v0).set 1 v1).set 2 v2
theorem Below.set3 {B : Nat} {a w : World} {c : Nat} {v0 v1 v2 : Value} (h : Below B a w) (hc : B ≤ c) :
    Below B a (((w.setCell ⟨c, 0, none⟩ v0).setCell ⟨c, 1, none⟩ v1).setCell ⟨c, 2, none⟩ v2) :=
  ((h.setCell hc v0).setCell hc v1).setCell hc v2
theorem ObjAt.other3 {w : World} {b c : Nat} {t : TypeId} {cs : List Value} {v0 v1 v2 : Value} (h : ObjAt w b t cs) (hn : b ≠ c) :
    ObjAt (((w.setCell ⟨c, 0, none⟩ v0).setCell ⟨c, 1, none⟩ v1).setCell ⟨c, 2, none⟩ v2) b t cs :=
  ((h.setOther hn v0).setOther hn v1).setOther hn v2
theorem ObjAt.set2 {w : World} {b : Nat} {t : TypeId} {a0 a1 v0 v1 : Value} (h : ObjAt w b t [a0, a1]) :
    ObjAt ((w.setCell ⟨b, 0, none⟩ v0).setCell ⟨b, 1, none⟩ v1) b t [v0, v1] :=
  (h.set 0 v0).set 1 v1
theorem Below.set2 {B : Nat} {a w : World} {c : Nat} {v0 v1 : Value} (h : Below B a w) (hc : B ≤ c) :
    Below B a ((w.setCell ⟨c, 0, none⟩ v0).setCell ⟨c, 1, none⟩ v1) :=
  (h.setCell hc v0).setCell hc v1
theorem ObjAt.other2 {w : World} {b c : Nat} {t : TypeId} {cs : List Value} {v0 v1 : Value} (h : ObjAt w b t cs) (hn : b ≠ c) :
    ObjAt ((w.setCell ⟨c, 0, none⟩ v0).setCell ⟨c, 1, none⟩ v1) b t cs :=
  (h.setOther hn v0).setOther hn v1
theorem kcell {S : List Nat} {W w1 : World} (hk : Kept S W w1) : (∀ b o, b < W.heap.size → b ∉ S → w1.cell? ⟨b, o, none⟩ = W.cell? ⟨b, o, none⟩) ∧ (∀ b o, b < W.heap.size → b ∉ S → w1.frozen? ⟨b, o, none⟩ = W.frozen? ⟨b, o, none⟩) :=
  ⟨fun b o h hn => hk.cell (p := ⟨b, o, none⟩) h hn, fun b o h hn => hk.frozen (p := ⟨b, o, none⟩) h hn⟩
end Go.Proofs.YtlnghfmcofmkjaaGreatDoor
