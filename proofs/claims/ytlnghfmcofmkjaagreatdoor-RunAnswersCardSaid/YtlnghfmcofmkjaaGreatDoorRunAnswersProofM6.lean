/- A row of conns that may begin within its block and owns its spare cells; append onto it. slices.Index, Contains at []api.Conn; foldsame.Conns; foldref2.Queue.Place: by contracts. -/
import Derived.Test.YtlnghfmcofmkjaaGreatDoorRunAnswersProofM5
import Derived.ArgAppend
import Derived.Deep.RegionHeldLaw
namespace Go.Proofs.YtlnghfmcofmkjaaGreatDoor
open Go.RowKit

theorem Tryz.infoCn : (Tryz.prog.info? 74).map (fun i => (i.zero, i.size, i.bytes)) = some (some (.agg #[.int .i64 0, .int .i64 0]), 2, 16) := by kernel_rfl
theorem Tryz.zeroCn (w : World) : (zeroValue 74).run Tryz.prog w = .ok (.agg #[.int .i64 0, .int .i64 0]) w := by kernel_rfl
/-- the slice v holds the pairs zs; its cells up to its capacity are there and may be written -/
def QRow (w : World) (v : Value) (zs : List (Int × Int)) : Prop :=
  zs.length ≤ 900 ∧ ((zs = [] ∧ v = .slice none 0 0) ∨ ∃ g off cap, v = .slice (some ⟨g, off, none⟩) zs.length cap ∧ zs.length ≤ cap ∧ cap ≤ maxLen ∧ g < w.heap.size ∧ PC w g off zs ∧
    ∀ t, t < cap * 2 → (w.cell? ⟨g, off + t, none⟩).isSome = true ∧ w.frozen? ⟨g, off + t, none⟩ = false)
theorem QRow.nil (w : World) : QRow w (.slice none 0 0) [] := ⟨by simp, .inl ⟨rfl, rfl⟩⟩
theorem QRow.psl {w : World} {v : Value} {zs : List (Int × Int)} (h : QRow w v zs) : PSl w v zs := by
  obtain ⟨h0, ⟨h1, h2⟩ | ⟨g, off, cap, h1, h2, _, h3, h4, _⟩⟩ := h
  · exact ⟨by omega, .inl ⟨h1, none, 0, h2⟩⟩
  · exact ⟨by omega, .inr ⟨g, off, cap, h1, h2, h3, h4⟩⟩
theorem QRow.lt {w : World} {v : Value} {zs : List (Int × Int)} (h : QRow w v zs) : ∀ g, v.ownBlock = some g → g < w.heap.size := by
  obtain ⟨_, ⟨_, rfl⟩ | ⟨g, off, cap, rfl, _, _, h3, _⟩⟩ := h
  · intro g hg; simp [Value.ownBlock] at hg
  · intro g' hg
    simp [Value.ownBlock] at hg
    omega
theorem QRow.carry {w w' : World} {v : Value} {zs : List (Int × Int)} (h : QRow w v zs) (hs : w.heap.size ≤ w'.heap.size) (hb : ∀ g, v.ownBlock = some g → w'.heap[g]? = w.heap[g]?) : QRow w' v zs := by
  obtain ⟨h0, ⟨h1, h2⟩ | ⟨g, off, cap, rfl, h2, h3, h4, h5, h6⟩⟩ := h
  · exact ⟨h0, .inl ⟨h1, h2⟩⟩
  · have hg := hb g rfl
    have hc : ∀ o, w'.cell? ⟨g, o, none⟩ = w.cell? ⟨g, o, none⟩ := fun o => World.cell?_of_block (a := ⟨g, o, none⟩) hg
    have hf : ∀ o, w'.frozen? ⟨g, o, none⟩ = w.frozen? ⟨g, o, none⟩ := fun o => World.frozen?_of_block (a := ⟨g, o, none⟩) hg
    refine ⟨h0, .inr ⟨g, off, cap, rfl, h2, h3, by omega, fun j hj => ?_, fun t ht => ?_⟩⟩
    · rw [hc, hc]; exact h5 j hj
    · rw [hc, hf]; exact h6 t ht
theorem QRow.below {w w' : World} {v : Value} {zs : List (Int × Int)} (h : QRow w v zs) (hb : Below w.heap.size w w') : QRow w' v zs :=
  h.carry hb.size fun g hg => hb.block g (h.lt g hg)
theorem QRow.kept {S : List Nat} {w w' : World} {v : Value} {zs : List (Int × Int)} (h : QRow w v zs) (hk : Kept S w w') (hn : ∀ g, v.ownBlock = some g → g ∉ S) : QRow w' v zs :=
  h.carry hk.size fun g hg => hk.block g (h.lt g hg) (hn g hg)
theorem QRow.setOther {w : World} {v : Value} {zs : List (Int × Int)} (h : QRow w v zs) {a : Addr} (hn : ∀ g, v.ownBlock = some g → g ≠ a.block) (u : Value) : QRow (w.setCell a u) v zs := by
  refine h.carry (by simp) fun g hg => ?_
  have := hn g hg
  exact Below.heap_setCell _ _ _ _ this
theorem own_qrow {w : World} {base : Nat} {e : TypeId} {v : Value} {zs : List (Int × Int)} (h : w.ownsRow base e 2 v zs.length (flat zs)) (hl : zs.length ≤ 900) : QRow w v zs := by
  refine ⟨hl, ?_⟩
  have hp := own_psl h (by omega)
  rcases h.2 with ⟨rfl, h0⟩ | ⟨g, cap, cur, rfl, hb, hg, hnc, hcm, hcs, htk⟩
  · exact .inl ⟨List.eq_nil_of_length_eq_zero h0, rfl⟩
  · refine .inr ⟨g, 0, cap, rfl, hnc, hcm, lt_of_block hg, fun j hj => ?_, fun t ht => ?_⟩
    · have hf := flat_get zs j hj
      have hc := fun t ht => World.ownsRow.cellAt (w := w) (base := base) (e := e) (size := 2) (g := g) (n := zs.length) (cap := cap) (xs := flat zs) h t ht
      rw [Nat.zero_add]
      exact ⟨(hc _ (by omega)).trans hf.1, (hc _ (by omega)).trans hf.2⟩
    · rw [Nat.zero_add]
      have e1 : w.cell? ⟨g, t, none⟩ = cur[t]? := cell_of_row w g t cur e (0, 0) hg
      refine ⟨?_, World.ownsRow.frozenAt (w := w) (base := base) (e := e) (size := 2) (g := g) (n := zs.length) (cap := cap) (xs := flat zs) h t⟩
      rw [e1, Array.getElem?_eq_getElem (by omega)]
      rfl
theorem flat_get' (zs : List (Int × Int)) (j : Nat) (u : Value) (h : (flat zs)[j]? = some u) : (j % 2 = 0 ∧ u = .int .i64 (zs.getD (j / 2) (0, 0)).1 ∧ j / 2 < zs.length) ∨ (j % 2 = 1 ∧ u = .int .i64 (zs.getD (j / 2) (0, 0)).2 ∧ j / 2 < zs.length) := by
  have hl : j < zs.length * 2 := by have := (List.getElem?_eq_some_iff.1 h).1; rwa [flat_length] at this
  obtain ⟨g0, g1⟩ := flat_get zs (j / 2) (by omega)
  have : j % 2 = 0 ∨ j % 2 = 1 := by omega
  rcases this with h2 | h2
  · rw [show j / 2 * 2 = j by omega] at g0
    exact .inl ⟨h2, Option.some.inj (h.symm.trans g0), by omega⟩
  · rw [show j / 2 * 2 + 1 = j by omega] at g1
    exact .inr ⟨h2, Option.some.inj (h.symm.trans g1), by omega⟩
theorem PC.flat {w : World} {b off : Nat} {zs : List (Int × Int)} (h : PC w b off zs) : ∀ j u, (flat zs)[j]? = some u → w.cell? ⟨b, off + j, none⟩ = some u := by
  intro j u hu
  rcases flat_get' zs j u hu with ⟨h2, rfl, h3⟩ | ⟨h2, rfl, h3⟩
  · have := (h (j / 2) h3).1
    rwa [show off + j / 2 * 2 = off + j by omega] at this
  · have := (h (j / 2) h3).2
    rwa [show off + j / 2 * 2 + 1 = off + j by omega] at this
/-- what two stores leave of a block's cells -/
theorem cell_set2 (w : World) (g o : Nat) (u1 u2 : Value) (h1 : (w.cell? ⟨g, o, none⟩).isSome = true) (h2 : (w.cell? ⟨g, o + 1, none⟩).isSome = true) (p : Nat) :
    (w.setCells g o [u1, u2]).cell? ⟨g, p, none⟩ = if p = o then some u1 else if p = o + 1 then some u2 else w.cell? ⟨g, p, none⟩ := by
  have hin := World.cell?_setCells_in g [u1, u2] o w (by
    intro j hj
    match j, hj with
    | 0, _ => exact h1
    | 1, _ => exact h2)
  by_cases hb : p = o
  · subst hb
    rw [if_pos rfl]
    exact hin 0 (by simp)
  · rw [if_neg hb]
    by_cases ha : p = o + 1
    · subst ha
      rw [if_pos rfl]
      exact hin 1 (by simp)
    · rw [if_neg ha]
      exact World.cell?_setCells_out g [u1, u2] o w ⟨g, p, none⟩ (fun _ _ => by simp; omega)
theorem frozen_set2 (w : World) (g o : Nat) (u1 u2 : Value) (a : Addr) : (w.setCells g o [u1, u2]).frozen? a = w.frozen? a := World.frozen?_setCells _ _ _ _ _
theorem set2_block (w : World) (g o : Nat) (u1 u2 : Value) (k : Nat) (hk : k ≠ g) : (w.setCells g o [u1, u2]).heap[k]? = w.heap[k]? := by
  have e : w.setCells g o [u1, u2] = (w.setCell ⟨g, o, none⟩ u1).setCell ⟨g, o + 1, none⟩ u2 := rfl
  rw [e, Below.heap_setCell _ _ _ _ hk, Below.heap_setCell _ _ _ _ hk]
theorem run_append_q (w : World) (ty : TypeId) {v : Value} {zs : List (Int × Int)} (h : QRow w v zs) (hl : zs.length < 800) (ad : Addr) (c : Nat) (x : Int × Int)
    (h0 : w.cell? (ad.add 0) = some (.int .i64 x.1)) (h1 : w.cell? (ad.add 1) = some (.int .i64 x.2)) :
    ∃ v' w', (Builtin.append_ #[53, 53] ty #[v, .slice (some ad) 1 c]).run Tryz.prog w = .ok v' w' ∧ QRow w' v' (zs ++ [x]) ∧ w.grownBy w' v.ownBlock ∧ (v'.ownBlock = v.ownBlock ∨ ∃ g, v'.ownBlock = some g ∧ w.heap.size ≤ g) := by
  obtain ⟨i0, hi0, hz0, hz1, hz2⟩ := info_parts Tryz.infoCn
  have hnews : ∀ j u, ([Value.int .i64 x.1, .int .i64 x.2])[j]? = some u → w.cell? (ad.add j) = some u := by
    intro j u hj
    match j, hj with
    | 0, hj => simp at hj; subst hj; exact h0
    | 1, hj => simp at hj; subst hj; exact h1
  have h1c : ∀ u ∈ [Value.int .i64 x.1, .int .i64 x.2], u.oneCell' = true := by
    intro u hu; simp at hu; rcases hu with rfl | rfl <;> rfl
  have hm : zs.length + 1 ≤ maxLen := by unfold maxLen; omega
  have e1 : flat (zs ++ [x]) = flat zs ++ [.int .i64 x.1, .int .i64 x.2] := by rw [flat_append]; rfl
  obtain ⟨hz, ⟨rfl, rfl⟩ | ⟨g, off, cap, rfl, h2, h3, h4, h5, h6⟩⟩ := h
  · obtain ⟨v', w', hr, r1, r2, _⟩ := run_append_own (P := Tryz.prog) w w.heap.size 53 ty 74 i0 _ 2 16 Tryz.underlying53 hi0 hz0 hz1 hz2 rfl (by decide) (.slice none 0 0) 0 [] (World.ownsRow_nil w _ _ 2) ad 1 c [.int .i64 x.1, .int .i64 x.2] rfl hnews h1c (by simpa using hm) (by omega) (Nat.le_refl _)
    refine ⟨v', w', hr, own_qrow (base := w.heap.size) (e := 74) (by rw [e1]; exact r1) (by simp), r2, ?_⟩
    obtain ⟨g, cap, hv, hb, _⟩ := own_form r1 (by omega)
    exact .inr ⟨g, by rw [hv]; rfl, hb⟩
  · by_cases hr : zs.length + 1 ≤ cap
    · have hsp : ∀ j, j < ([Value.int .i64 x.1, .int .i64 x.2]).length → (w.cell? ⟨g, off + zs.length * i0.size + j, none⟩).isSome = true ∧ w.frozen? ⟨g, off + zs.length * i0.size + j, none⟩ = false := by
        intro j hj
        simp at hj
        have := h6 (zs.length * 2 + j) (by omega)
        rw [hz1, Nat.add_assoc]; exact this
      have hrun := run_append_room_cells (P := Tryz.prog) w 53 ty 74 i0 Tryz.underlying53 hi0 g off zs.length cap ad 1 c [.int .i64 x.1, .int .i64 x.2] (by rw [hz1]; rfl) hnews h1c hr (fun j hj => (hsp j hj).1) (fun j hj => (hsp j hj).2)
      rw [hz1] at hrun
      have q0 := (h6 (zs.length * 2) (by omega)).1
      have q1 := (h6 (zs.length * 2 + 1) (by omega)).1
      have hce := cell_set2 w g (off + zs.length * 2) (.int .i64 x.1) (.int .i64 x.2) q0 q1
      have hbl := set2_block w g (off + zs.length * 2) (.int .i64 x.1) (.int .i64 x.2)
      have hfr := frozen_set2 w g (off + zs.length * 2) (.int .i64 x.1) (.int .i64 x.2)
      have hsz : (w.setCells g (off + zs.length * 2) [.int .i64 x.1, .int .i64 x.2]).heap.size = w.heap.size := by simp [World.setCells]
      refine ⟨_, _, hrun, ⟨by simp; omega, .inr ⟨g, off, cap, by simp, by simpa using hr, h3, by rw [hsz]; exact h4, fun j hj => ?_, fun t ht => ?_⟩⟩, ⟨rfl, rfl, rfl, by rw [hsz]; exact Nat.le_refl _, fun k _ hk => hbl k (fun hkg => hk (by rw [hkg]; rfl))⟩, .inl rfl⟩
      · simp at hj
        rw [hce, hce]
        by_cases hj2 : j < zs.length
        · rw [if_neg (by omega), if_neg (by omega), if_neg (by omega), if_neg (by omega)]
          have := h5 j hj2
          simpa [List.getD, List.getElem?_append_left hj2] using this
        · obtain rfl : j = zs.length := by omega
          rw [if_pos rfl, if_neg (by omega), if_pos rfl]
          simp
      · rw [hce, hfr]
        refine ⟨?_, (h6 t ht).2⟩
        split
        · rfl
        · split
          · rfl
          · exact (h6 t ht).1
    · obtain ⟨v', w', hrun, r1, r2⟩ := run_append_arg_grows (P := Tryz.prog) w 53 ty 74 i0 _ 2 16 Tryz.underlying53 hi0 hz0 hz1 hz2 rfl (by decide) ⟨g, off, none⟩ zs.length cap (flat zs) (flat_length zs) (fun j u hj => by rw [Addr.add_lit]; exact h5.flat j u hj) ad 1 c [.int .i64 x.1, .int .i64 x.2] rfl hnews (by omega) hm (by omega)
      refine ⟨v', w', hrun, own_qrow (base := w.heap.size) (e := 74) (by rw [e1]; simpa using r1) (by simp; omega), ⟨r2.os, r2.tape, r2.output, r2.size, fun k hk _ => r2.block k hk (by simp)⟩, ?_⟩
      obtain ⟨g', cap', hv, hb, _⟩ := own_form r1 (by omega)
      exact .inr ⟨g', by rw [hv]; rfl, hb⟩
/-- append of one, as a step of a region that draws its order -/
theorem step_append_q (w : World) {ops : Array Oper} {o : Oper} {a : Act} {K : Act → World → Prop} {Q : Exit → Act → World → Prop} {E : Prop} (hgd : o.guard = none) (s x : Operand)
    (ho : o.op = .call { callee := .builtin .append, args := #[s, x], argTypes := #[53, 53] })
    {v : Value} {zs : List (Int × Int)} (hs : a.eval s = v) (hq : QRow w v zs) (hl : zs.length < 800) (ad : Addr) (c : Nat) (y : Int × Int) (hx : a.eval x = .slice (some ad) 1 c)
    (h0 : w.cell? (ad.add 0) = some (.int .i64 y.1)) (h1 : w.cell? (ad.add 1) = some (.int .i64 y.2))
    (h : ∀ v' w', QRow w' v' (zs ++ [y]) → w.grownBy w' v.ownBlock → (v'.ownBlock = v.ownBlock ∨ ∃ g, v'.ownBlock = some g ∧ w.heap.size ≤ g) → K (a.put o.dst v') w') :
    if Region.wanted o (yielded ops a.tmps) = true then Oper.wp Tryz.prog o a w K Q else E := by
  have hw : Region.wanted o (yielded ops a.tmps) = true := by simp [Region.wanted, hgd]
  rw [if_pos hw]
  obtain ⟨v', w', hr, h2, h3, h4⟩ := run_append_q w o.type hq hl ad c y h0 h1
  unfold Oper.wp execOp
  simp only [ho, resolve, invoke, builtin, Sem.run_bind, Sem.run_pure, Result.andThen_ok, List.map_toArray, List.map_cons, List.map_nil, hs, hx, hr]
  exact h v' w' h2 h3 h4
end Go.Proofs.YtlnghfmcofmkjaaGreatDoor

namespace Go.Proofs.YtlnghfmcofmkjaaGreatDoor
open Go.RowKit

/-- is it that conn? -/
def cnP (s n : Int) : Int × Int → Bool := fun y => y.1 == s && y.2 == n
theorem lt_succQ {p : Nat → Prop} {m : Nat} (h : ∀ j, j < m → p j) (hm : p m) : ∀ j, j < m + 1 → p j := by
  intro j hj
  rcases Nat.lt_or_ge j m with h1 | h1
  · exact h j h1
  · obtain rfl : j = m := by omega
    exact hm
set_option maxHeartbeats 4000000 in
theorem cnIndex (s n : Int) (v : Value) (zs : List (Int × Int)) (w : World) (hv : PSl w v zs) :
    Calls Tryz.prog 159 #[v, .agg #[.int .i64 s, .int .i64 n]] w fun e w' => e = .returned (.int .i64 (idxP (cnP s n) zs)) ∧ Below w.heap.size w w' := by
  obtain ⟨hl, ⟨rfl, a, c, rfl⟩ | ⟨b, off, c, rfl, hc, hb, hpc⟩⟩ := hv
  · go_enter Tryz.func159, Tryz.ntmps159
    go_wp2
    go_rounds 1
    go_ret
    exact ⟨rfl, by go_grown⟩
  · obtain ⟨m, hn⟩ : ∃ m, m = zs.length := ⟨_, rfl⟩
    rw [← hn] at hl hc ⊢
    have Hn := hide hn
    have HPC := hide hpc
    clear hn hpc
    go_enter Tryz.func159, Tryz.ntmps159
    go_wp2_with fail
    go_loopw [8] (fun i wr => ∃ k : Nat, i = .int .i64 (k : Int) ∧ k ≤ m ∧ Hid (∀ j, j < k → cnP s n (zs.getD j (0, 0)) = false) ∧ ObjAt wr w.heap.size 74 [.int .i64 s, .int .i64 n] ∧ Below w.heap.size w wr) (fun i _ => 2000 - (intOf i).toNat)
    case atStart => exact ⟨0, rfl, by omega, hide (fun j hj => by omega), ObjAt.new _ _ _, (Below.refl _ _).alloc (Nat.le_refl _) _⟩
    case round =>
      obtain ⟨k, rfl, hk, hall, ho, hbw⟩ := hrel
      have HO := hide ho
      have HBW := hide hbw
      have t0 := ho.cell (i := 0) rfl
      have t1 := ho.cell (i := 1) rfl
      by_cases hlt : k < m
      · have hkz : k < zs.length := by rw [← Hn.out]; exact hlt
        obtain ⟨q0, q1⟩ := HPC.out.below hb hbw k hkz
        have HK := hide hkz
        obtain ⟨y, hy⟩ : ∃ y, y = zs.getD k (0, 0) := ⟨_, rfl⟩
        rw [← hy] at q0 q1
        have HY := hide hy
        obtain ⟨y1, y2⟩ := y
        simp only at q0 q1
        clear hy hkz ho hbw
        by_cases h1 : y1 = s
        · by_cases h2 : y2 = n
          · have hp : cnP s n (zs.getD k (0, 0)) = true := by rw [← HY.out]; simp [cnP, h1, h2]
            have HI := hide (idxP_hit HK.out hp hall.out)
            subst h1
            subst h2
            clear hp
            go_wp2_with fail
            go_quiet (fail)
            go_wp2
            go_ret
            exact ⟨by rw [HI.out]; rfl, by first | exact HBW.out | exact bel_drewN HBW.out _ | exact HBW.out.drew⟩
          · have hp : cnP s n (zs.getD k (0, 0)) = false := by rw [← HY.out]; simp [cnP, h2]
            have HA := hide (lt_succQ hall.out hp)
            have e1 : (s == y1) = true := by simp [h1]
            have e2 : (n == y2) = false := beq_eq_false_iff_ne.2 (Ne.symm h2)
            clear hp h2 h1
            go_wp2_with fail
            go_quiet (fail)
            go_wp2
            go_roundw
            case rel => exact ⟨k + 1, by go_num, by omega, HA, by first | exact HO.out | exact HO.out.drewN _ | exact HO.out.drew, by first | exact HBW.out | exact bel_drewN HBW.out _ | exact HBW.out.drew⟩
            case measure => simp [intOf] <;> omega
        · have hp : cnP s n (zs.getD k (0, 0)) = false := by rw [← HY.out]; simp [cnP, h1]
          have HA := hide (lt_succQ hall.out hp)
          have e1 : (s == y1) = false := beq_eq_false_iff_ne.2 (Ne.symm h1)
          clear hp h1
          go_wp2_with fail
          go_quiet (fail)
          go_wp2
          go_roundw
          case rel => exact ⟨k + 1, by go_num, by omega, HA, by first | exact HO.out | exact HO.out.drewN _ | exact HO.out.drew, by first | exact HBW.out | exact bel_drewN HBW.out _ | exact HBW.out.drew⟩
          case measure => simp [intOf] <;> omega
      · have HI := hide (idxP_miss (p := cnP s n) (zs := zs) (fun j hj => hall.out j (by have := Hn.out; omega)))
        have hge : (m : Int) ≤ k := by omega
        clear HPC ho hall
        go_wp2
        go_ret
        exact ⟨by rw [HI.out]; rfl, hbw⟩
theorem cnContains (s n : Int) (v : Value) (zs : List (Int × Int)) (w : World) (hv : PSl w v zs) :
    Calls Tryz.prog 148 #[v, .agg #[.int .i64 s, .int .i64 n]] w fun e w' => e = .returned (.bool (zs.any (cnP s n))) ∧ Below w.heap.size w w' := by
  have C := hide (fun W (hW : Below w.heap.size w W) => cnIndex s n v zs W (hv.below hW))
  have e := idxP_any (cnP s n) zs
  rw [← e]
  clear e hv
  generalize idxP (cnP s n) zs = i at C ⊢
  go_enter Tryz.func148, Tryz.ntmps148
  go_wp2_with fail
  refine (C.out _ ((Below.refl _ _).alloc (Nat.le_refl _) _)).mono ?_
  rintro e w1 ⟨rfl, hb1⟩
  go_wp2
  go_ret
  exact ⟨rfl, bel_a1 hb1⟩
end Go.Proofs.YtlnghfmcofmkjaaGreatDoor
