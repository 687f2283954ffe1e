/- Contracts of the shelf: IndexByte. strings.Lines: its iterator by contract, for whatever rounds. A loop over strings.Lines: the law of its walk: the body is walked once, at the k-th line, with whatever the caller keeps between two rounds. A loop over strings.Lines whose round keeps the loop's own two blocks (it may turn others): the law of its walk. run: what stands between two lines of a session. -/
import Derived.Shelf.Small.Strs
import Derived.Test.YtlnghfmcofmkjaaGreatDoorProg
import Derived.RangeFuncNested
import Derived.RangeFuncBound
import Derived.RangeFuncCalls
import Derived.RangeFuncLeaves
import Derived.Shelf.Abstract
import Derived.Shelf.RegionOpen
import Derived.WalkKit
import Derived.OwnWalkIn
import Derived.TacticsInMore
import Derived.LoopNIn
import Derived.LoopIn
import Derived.RegionIn
import Derived.Test.YtlnghfmcofmkjaaGreatDoorRunAnswersProofM2
import Derived.Test.YtlnghfmcofmkjaaGreatDoorObj
import Derived.Test.YtlnghfmcofmkjaaGreatDoorRunAnswersProofM45
import Derived.Stop.RegionWithIn
namespace Go.Proofs.YtlnghfmcofmkjaaGreatDoor
open Go.Shelf

def Tryz.lays137_ren : Go.Shelf.Ren := ⟨fun | 137 => 33 | 217 => 46 | 266 => 60 | n => n, fun | 9 => 9 | 5 => 5 | 3 => 3 | n => n, fun | n => n⟩
theorem Tryz.lays137 : Go.Proofs.Lays.n137 Tryz.prog Tryz.lays137_ren := {
  mixed := by kernel_rfl
  f137 := Tryz.func33.trans (congrArg some (by kernel_rfl))
  f217 := Tryz.func46.trans (congrArg some (by kernel_rfl))
  f266 := Tryz.func60.trans (congrArg some (by kernel_rfl))
  t3 := Tryz.underlying3
  a3 := Tryz.isAgg3
  z3 := Tryz.sizeOf3
  v3 := Tryz.zeroValue3
  t5 := Tryz.underlying5
  a5 := Tryz.isAgg5
  z5 := Tryz.sizeOf5
  v5 := Tryz.zeroValue5
  t9 := Tryz.underlying9
  a9 := Tryz.isAgg9
  z9 := Tryz.sizeOf9
  v9 := Tryz.zeroValue9 }
open Go.RowKit in
/-- strings.IndexByte: "IndexByte returns the index of the first instance of c in s, or -1 if c is not present in s.": IT RETURNS 'Lib.indexByte s c'; the world is as it was. (LAID: no walk: one application.) -/
theorem Tryz.strings_IndexByte (s : ByteArray) (c : Int) (w : World) :
    Calls Tryz.prog 33 #[.string s, .int .u8 c] w fun e w' => e = .returned (.int .i64 (Lib.indexByte s.data.toList c.toNat.toUInt8)) ∧ w' = w := Any.strings_IndexByte Tryz.lays137 s c w
end Go.Proofs.YtlnghfmcofmkjaaGreatDoor

namespace Go.Proofs.YtlnghfmcofmkjaaGreatDoor
open Go.RowKit Go.Shelf
attribute [local go_sem] Oper.semAt_some

/-- how many bytes block b holds -/
def lenAt (b : Nat) (w : World) : Nat := match w.cell? ⟨b, 0, none⟩ with | some (.string t) => t.size | _ => 0
theorem lenAt_obj {w : World} {b : Nat} {t : ByteArray} (h : ObjAt w b 9 [.string t]) : lenAt b w = t.size := by
  unfold lenAt; rw [h.cell (i := 0) rfl]
theorem drop_head {α : Type} {l r : List α} {x : α} {k : Nat} (h : l.drop k = x :: r) : l[k]? = some x ∧ l.drop (k + 1) = r ∧ k < l.length := by
  have hk : k < l.length := by
    rcases Nat.lt_or_ge k l.length with h1 | h1
    · exact h1
    · rw [List.drop_of_length_le h1] at h; cases h
  rw [List.drop_eq_getElem_cons hk] at h
  obtain ⟨h1, h2⟩ := List.cons.inj h
  exact ⟨by rw [List.getElem?_eq_getElem hk, h1], h2, hk⟩
theorem grownBy_set (w : World) (b i : Nat) (v : Value) : w.grownBy (w.setCell ⟨b, i, none⟩ v) (some b) :=
  ⟨rfl, rfl, rfl, by simp [World.setCell], fun k _ hk => Below.heap_setCell w _ v k (fun e => hk (by rw [e]))⟩
theorem grownBy_drew (w : World) : w.grownBy w.drew none := ⟨rfl, rfl, rfl, Nat.le_refl _, fun _ _ _ => rfl⟩
set_option maxRecDepth 100000 in
set_option maxHeartbeats 2000000 in
theorem linesIter (n l bs : Nat) (hn1 : 1 ≤ n) (s : ByteArray) (hsz : s.size ≤ maxLen) (J : Nat → World → Prop)
    (hJ : ∀ k W W' row, J k W → W.grownBy W' row → (∀ r, row = some r → r = bs) → J k W')
    (hY : ∀ k W (x : ByteArray), (linesL s.data.toList)[k]? = some x.data.toList → J k W → YieldAt Fence.wide (n - 1) Tryz.prog l #[.string x] W fun e W' => e = .returned (.bool true) ∧ J (k + 1) W' ∧ W'.heap[bs]? = W.heap[bs]?)
    (W : World) (hc : ObjAt W bs 9 [.string s]) (h0 : J 0 W) :
    CallsIn Fence.wide n Tryz.prog 32 #[.func (.yield l) #[] #[], .pointer (some ⟨bs, 0, none⟩)] W fun e W' => (∃ v, e = .returned v) ∧ J (linesL s.data.toList).length W' := by
  unfold maxLen at hsz
  refine callsIn_of_wp Tryz.func32 rfl trivial ?_ rfl
  simp only [Tryz.ntmps32, List.size_toArray, List.length_cons, List.length_nil, Nat.reduceAdd, Nat.reduceSub, Array.replicate_succ, Array.replicate_zero, List.push_toArray, List.append_toArray, List.nil_append, List.cons_append]
  gi_wp2
  gi_loopw [3, 4] (fun _ _ wr => ∃ (k : Nat) (t : ByteArray), k ≤ (linesL s.data.toList).length ∧ t.size ≤ 9223372036854775807 ∧ (linesL s.data.toList).drop k = linesL t.data.toList ∧ ObjAt wr bs 9 [.string t] ∧ J k wr)
    (fun _ _ wr => lenAt bs wr)
  case atStart => exact ⟨0, s, Nat.zero_le _, by omega, rfl, hc, h0⟩
  case round =>
    obtain ⟨k, t, hkn, ht, hd, ho, hj⟩ := hrel
    obtain ⟨w9, rfl⟩ : ∃ x, x = wr := ⟨wr, rfl⟩
    have q := ho.cell (i := 0) rfl
    have f := ho.free 0
    by_cases hn : 0 < t.size
    · rcases line_first t hn with ⟨e1, e2⟩ | ⟨i, hi, e1, e2⟩
      · have hIX : ∀ W : World, Calls Tryz.prog 33 #[.string t, .int .u8 10] W fun e w' => e = .returned (.int .i64 (-1)) ∧ W = w' := fun W => by
          have := Tryz.strings_IndexByte t 10 W
          have e3 : Lib.indexByte t.data.toList (Int.toNat 10).toUInt8 = -1 := e1
          rw [e3] at this
          exact this.mono fun _ _ ⟨h1, h2⟩ => ⟨h1, h2.symm⟩
        have IX := hide hIX
        rw [e2] at hd
        obtain ⟨hx, hd2, hkl⟩ := drop_head hd
        have hl := lenAt_obj ho
        obtain ⟨W5, hW5⟩ : ∃ W5, W5 = w9.setCell ⟨bs, 0, none⟩ (.string ⟨#[]⟩) := ⟨_, rfl⟩
        have ho5 : ObjAt W5 bs 9 [.string ⟨#[]⟩] := by rw [hW5]; exact ho.set 0 _
        have hj5 : J k W5 := by rw [hW5]; exact hJ k _ _ _ hj (grownBy_set _ _ _ _) (fun r e => (Option.some.inj e).symm)
        obtain ⟨fn, tmps, assign, body, hy, hR⟩ := hY k W5 t hx hj5
        have HR := hide hR
        have HO5 := hide ho5
        have HD := hide hd2
        have HL := hide hl
        rw [hW5] at hy
        clear hIX e1 e2 hd hx hR ho5 hj5 hd2 ho hj hl
        gi_wp2_with (refine ⟨trivial, ?_⟩; gi_at_call 33; refine (callsIn_wide.2 (IX.out _)).mono ?_; rintro e w' ⟨rfl, rfl⟩)
        rw [← hW5]
        refine HR.out.mono ?_
        rintro e W3 ⟨rfl, hJ3, hk3⟩
        have ho3 : ObjAt W3 bs 9 [.string ⟨#[]⟩] := hk3.trans HO5.out
        gi_wp2
        go_roundw
        case rel => exact ⟨k + 1, ⟨#[]⟩, hkl, by decide, by rw [HD.out]; rfl, ho3, hJ3⟩
        case measure => rw [lenAt_obj ho3, HL.out]; exact hn
      · have hIX : ∀ W : World, Calls Tryz.prog 33 #[.string t, .int .u8 10] W fun e w' => e = .returned (.int .i64 (i : Int)) ∧ W = w' := fun W => by
          have := Tryz.strings_IndexByte t 10 W
          have e3 : Lib.indexByte t.data.toList (Int.toNat 10).toUInt8 = i := e1
          rw [e3] at this
          exact this.mono fun _ _ ⟨h1, h2⟩ => ⟨h1, h2.symm⟩
        have IX := hide hIX
        rw [e2] at hd
        obtain ⟨hx, hd2, hkl⟩ := drop_head hd
        have hl := lenAt_obj ho
        obtain ⟨W5, hW5⟩ : ∃ W5, W5 = (w9.setCell ⟨bs, 0, none⟩ (.string (t.extract (i + 1) t.size))).drew := ⟨_, rfl⟩
        have ho5 : ObjAt W5 bs 9 [.string (t.extract (i + 1) t.size)] := by rw [hW5]; exact (ho.set 0 _).drew
        have hj5 : J k W5 := by rw [hW5]; exact hJ k _ _ _ (hJ k _ _ _ hj (grownBy_set _ _ _ _) (fun r e => (Option.some.inj e).symm)) (grownBy_drew _) (fun r e => by cases e)
        obtain ⟨fn, tmps, assign, body, hy, hR⟩ := hY k W5 (t.extract 0 (i + 1)) hx hj5
        have HR := hide hR
        have HO5 := hide ho5
        have HD := hide hd2
        have HL := hide hl
        have hsz2 : (t.extract (i + 1) t.size).size = t.size - (i + 1) := by simp
        have HSZ := hide hsz2
        rw [hW5] at hy
        clear hIX e1 e2 hd hx hd2 ho hj hl hR ho5 hj5 hsz2
        gi_wp2_with (refine ⟨trivial, ?_⟩; gi_at_call 33; refine (callsIn_wide.2 (IX.out _)).mono ?_; rintro e w' ⟨rfl, rfl⟩)
        gi_region
        rw [hW5] at HR
        gi_wp2
        refine HR.out.mono ?_
        rw [← hW5]
        rintro e W3 ⟨rfl, hJ3, hk3⟩
        have ho3 : ObjAt W3 bs 9 [.string (t.extract (i + 1) t.size)] := hk3.trans HO5.out
        gi_wp2
        go_roundw
        case rel => exact ⟨k + 1, _, hkl, by rw [HSZ.out]; omega, HD.out, ho3, hJ3⟩
        case measure => rw [lenAt_obj ho3, HL.out, HSZ.out]; omega
    · have ht0 : t.size = 0 := by omega
      have hl0 : t.data.toList = [] := by
        have : t.data.toList.length = 0 := by simpa using ht0
        exact List.length_eq_zero_iff.1 this
      have hd2 : (linesL s.data.toList).drop k = [] := by rw [hd, hl0]; rfl
      have hk2 : k = (linesL s.data.toList).length := by have := List.drop_eq_nil_iff.1 hd2; omega
      have HK := hide hk2
      have HJ := hide hj
      clear hd2 hl0 hk2 hd hj
      gi_wp2
      go_end0
      exact ⟨⟨_, rfl⟩, by rw [← HK.out]; exact HJ.out⟩
end Go.Proofs.YtlnghfmcofmkjaaGreatDoor

namespace Go.Proofs.YtlnghfmcofmkjaaGreatDoor
open Go.RowKit Go.Shelf

theorem linesNew (s : ByteArray) (w : World) : Calls Tryz.prog 12 #[.string s] w fun e w' => e = .returned (.func (.func 32) #[] #[.pointer (some ⟨w.heap.size, 0, none⟩)]) ∧ w' = w.alloc (.cells #[.string s] 9) := by
  go_enter Tryz.func12, Tryz.ntmps12
  go_wp2
  go_ret
  exact ⟨rfl, rfl⟩

/-- how a round is left: off its end -/
def roundOk (B bs : Nat) (R : World → Prop) (W : World) : Exit → Act → World → Prop
  | .normal, _, W' => KeepsFrom B W W' ∧ W'.heap[bs]? = W.heap[bs]? ∧ R W'
  | _, _, _ => False
/-- what a caller may keep between two rounds -/
def StandsLn (B bs : Nat) (I : Nat → World → Prop) : Prop :=
  ∀ k W W' row, I k W → W.grownBy W' row → (∀ r, row = some r → r = bs ∨ (B ≤ r ∧ ∃ o : Obj, W.heap[r]? = some o ∧ o.isCells = false)) → I k W'
theorem wp_lines {n : Nat} (hn : 3 ≤ n) {g : Operand} {p : Tmp} {assign body : Code} {Q : Exit → Act → World → Prop} {a : Act} {w : World} {bs : Nat} {s : ByteArray} (hsz : s.size ≤ maxLen)
    (hg : a.eval g = .func (.func 32) #[] #[.pointer (some ⟨bs, 0, none⟩)]) (hc : ObjAt w bs 9 [.string s])
    (I : Nat → World → Prop) (hI : StandsLn w.heap.size bs I) (h0 : I 0 w) (a₁ : ByteArray → Act)
    (hassign : ∀ (l : Nat) (x : ByteArray) (W : World) (K : Act → World → Prop), K (a₁ x) W →
      assign.wpIn (Fence.wide.inRound l) (n - 1 - 1) Tryz.prog (Exit.then K (fun _ _ _ => False)) { tmps := a.tmps.setIfInBounds p (.string x), defers := [] } W)
    (hbody : ∀ (l k : Nat) (x : ByteArray) (W : World), w.heap.size ≤ l → (linesL s.data.toList)[k]? = some x.data.toList → I k W → body.wpIn (Fence.wide.inRound l) (n - 1 - 1) Tryz.prog (roundOk w.heap.size bs (I (k + 1)) W) (a₁ x) W)
    (hdone : ∀ (D : Nat) (W : World), w.heap.size ≤ D → I (linesL s.data.toList).length W → W.heap[D]? = some (.deferred (some [])) → Q .normal { a with defers := { target := .collected D, args := #[] } :: a.defers } W) :
    (Code.rangeFunc g #[p] assign body).wpIn Fence.wide n Tryz.prog Q a w := by
  have hbl : bs < w.heap.size := hc.lt
  refine wpIn_rangeFunc ?_
  intro fn hfn
  obtain ⟨L, hL⟩ : ∃ L : LoopState → Option Code → Loop, L = fun st pe => { state := st, pending := pe, fn, tmps := a.tmps, params := #[p], assign, body, defers := w.heap.size } := ⟨_, rfl⟩
  obtain ⟨V, hV⟩ : ∃ V, (w.alloc (.deferred (some []))).alloc (.loop (L .ready none)) = V := ⟨_, rfl⟩
  have v1 : V.heap[w.heap.size + 1]? = some (.loop (L .ready none)) := by
    rw [← hV]
    have h := World.alloc_heap_new (w.alloc (.deferred (some []))) (.loop (L .ready none))
    rwa [World.size_alloc] at h
  have v0 : V.heap[w.heap.size]? = some (.deferred (some [])) := by
    rw [← hV]; exact (Below.heap_alloc _ _ _ (by simp)).trans (World.alloc_heap_new w _)
  have gr : ∀ (W : World) (o : Obj), W.grownBy (W.alloc o) none := fun W o => World.grownBy_alloc W o none
  have hIV : I 0 V := by
    rw [← hV]; exact hI _ _ _ _ (hI _ _ _ _ h0 (gr _ _) (fun r e => by cases e)) (gr _ _) (fun r e => by cases e)
  have hcV : ObjAt V bs 9 [.string s] := by rw [← hV]; exact (hc.alloc _).alloc _
  refine ⟨w.heap.size + 1, [{ target := .collected w.heap.size, args := #[] }], V, { target := .fn (.func 32) #[.pointer (some ⟨bs, 0, none⟩)], args := #[.func (.yield (w.heap.size + 1)) #[] #[]] }, V, 32,
    #[.func (.yield (w.heap.size + 1)) #[] #[], .pointer (some ⟨bs, 0, none⟩)], V, ?_, ?_, fun _ _ => trivial, ?_, fun _ => by omega, ?_⟩
  · rw [← hV, hL]; exact run_enterLoop_outer _ _ _ _ _
  · simp only [resolve, hg]
    simp [go_sem]
  · simp [invoke, go_sem]
  · have step : ∀ (W : World) (r : Nat) (o o' : Obj) (k : Nat), I k W → w.heap.size ≤ r → W.heap[r]? = some o → o.isCells = false → I k (W.putObj r o') := fun W r o o' k h hr ho hk =>
      hI _ _ _ _ h (grownBy_putObj' W r o') (fun x e => by cases e; exact .inr ⟨hr, o, ho, hk⟩)
    refine (linesIter (n - 1) (w.heap.size + 1) bs (by omega) s hsz
      (fun k W => I k W ∧ W.heap[w.heap.size + 1]? = some (.loop (L .ready none)) ∧ W.heap[w.heap.size]? = some (.deferred (some [])))
      (fun k A B row h hgr hrow => ?_) ?_ V hcV ⟨hIV, v1, v0⟩).mono ?_
    · obtain ⟨h1, h2, h3⟩ := h
      have ne : ∀ j, w.heap.size ≤ j → row ≠ some j := fun j hj e => by have := hrow j e; omega
      have l2 : w.heap.size + 1 < A.heap.size := (Array.getElem?_eq_some_iff.1 h2).1
      exact ⟨hI _ _ _ _ h1 hgr (fun r e => .inl (hrow r e)), (hgr.block _ l2 (fun e => ne _ (by omega) e.symm)).trans h2, (hgr.block _ (by omega) (fun e => ne _ (Nat.le_refl _) e.symm)).trans h3⟩
    · rintro k W x hx ⟨h1, h2, h3⟩
      have l2 : w.heap.size + 1 < W.heap.size := (Array.getElem?_eq_some_iff.1 h2).1
      have hy := run_yield (P := Tryz.prog) (args := #[.string x]) h2 (by rw [hL]; rfl)
      obtain ⟨W2, hW2⟩ : ∃ W2, W.putObj (w.heap.size + 1) (.loop { L .ready none with state := .busy }) = W2 := ⟨_, rfl⟩
      have hbg := run_beginRound (P := Tryz.prog) h2 (by rw [hL])
      rw [hW2] at hbg
      have b1 : I k W2 := by rw [← hW2]; exact step _ _ _ _ _ h1 (by omega) h2 rfl
      have b2 : W2.heap[w.heap.size + 1]? = some (.loop { L .ready none with state := .busy }) := by rw [← hW2]; exact World.putObj_heap_same l2
      have b3 : W2.heap[w.heap.size]? = some (.deferred (some [])) := by rw [← hW2]; exact (World.putObj_heap_other (by omega)).trans h3
      have b4 : W2.heap[bs]? = W.heap[bs]? := by rw [← hW2]; exact World.putObj_heap_other (by omega)
      clear hW2
      have hy2 : (Instr.yield (w.heap.size + 1) #[.string x]).run Tryz.prog W = .ok (.round (w.heap.size + 1) fn (a.tmps.setIfInBounds p (.string x)) assign body) W := by
        rw [hy, hL]
        simp
      refine ⟨fn, _, assign, body, hy2, roundIn_of_wpIn hfn (wpIn_mono (hassign _ x W (fun a' W' => a' = a₁ x ∧ W' = W) ⟨rfl, rfl⟩) ?_)⟩
      rintro e a3 W3 hp
      cases e with
      | normal =>
        obtain ⟨rfl, rfl⟩ := hp
        refine ⟨W2, hbg, wpIn_mono (hbody _ k x W2 (by omega) hx b1) ?_⟩
        rintro e a4 W4 hp
        cases e with
        | normal =>
          obtain ⟨k4, b5, i4⟩ := hp
          have r4 := k4.same _ _ (by omega) b2 rfl
          have d4 := k4.same _ _ (Nat.le_refl _) b3 rfl
          have en := run_endRound (P := Tryz.prog) none r4
          refine ⟨_, _, en, rfl, ⟨step _ _ _ _ _ i4 (by omega) r4 rfl, ?_, (World.putObj_heap_other (by omega)).trans d4⟩, (World.putObj_heap_other (by omega)).trans (b5.trans b4)⟩
          rw [World.putObj_heap_same (Array.getElem?_eq_some_iff.1 r4).1, hL]
          rfl
        | _ => exact hp.elim
      | _ => exact hp.elim
    · rintro e W ⟨⟨v, rfl⟩, h1, h2, h3⟩
      have en := run_endLoop (P := Tryz.prog) h2 (by rw [hL]; simp)
      have e2 : (L .ready none).pending = none := by rw [hL]
      rw [e2] at en
      exact ⟨none, _, en, hdone _ _ (Nat.le_refl _) (step _ _ _ _ _ h1 (by omega) h2 rfl) ((World.putObj_heap_other (by omega)).trans h3)⟩
end Go.Proofs.YtlnghfmcofmkjaaGreatDoor

namespace Go.Proofs.YtlnghfmcofmkjaaGreatDoor
open Go.RowKit Go.Shelf

/-- how a round is left: off its end -/
def roundOk2 (B bs : Nat) (R : World → Prop) (W : World) : Exit → Act → World → Prop
  | .normal, _, W' => (W'.heap[B]? = W.heap[B]? ∧ W'.heap[B + 1]? = W.heap[B + 1]?) ∧ W'.heap[bs]? = W.heap[bs]? ∧ R W'
  | _, _, _ => False
/-- what a caller may keep between two rounds -/
def StandsLn2 (B bs : Nat) (I : Nat → World → Prop) : Prop :=
  ∀ k W W' row, I k W → W.grownBy W' row → (∀ r, row = some r → r = bs ∨ r = B ∨ r = B + 1) → I k W'
theorem wp_lines2 {n : Nat} (hn : 3 ≤ n) {g : Operand} {p : Tmp} {assign body : Code} {Q : Exit → Act → World → Prop} {a : Act} {w : World} {bs : Nat} {s : ByteArray} (hsz : s.size ≤ maxLen)
    (hg : a.eval g = .func (.func 32) #[] #[.pointer (some ⟨bs, 0, none⟩)]) (hc : ObjAt w bs 9 [.string s])
    (I : Nat → World → Prop) (hI : StandsLn2 w.heap.size bs I) (h0 : I 0 w) (a₁ : ByteArray → Act)
    (hassign : ∀ (l : Nat) (x : ByteArray) (W : World) (K : Act → World → Prop), K (a₁ x) W →
      assign.wpIn (Fence.wide.inRound l) (n - 1 - 1) Tryz.prog (Exit.then K (fun _ _ _ => False)) { tmps := a.tmps.setIfInBounds p (.string x), defers := [] } W)
    (hbody : ∀ (l k : Nat) (x : ByteArray) (W : World), w.heap.size ≤ l → w.heap.size + 1 < W.heap.size → (linesL s.data.toList)[k]? = some x.data.toList → I k W → body.wpIn (Fence.wide.inRound l) (n - 1 - 1) Tryz.prog (roundOk2 w.heap.size bs (I (k + 1)) W) (a₁ x) W)
    (hdone : ∀ (D : Nat) (W : World), w.heap.size ≤ D → I (linesL s.data.toList).length W → W.heap[D]? = some (.deferred (some [])) → Q .normal { a with defers := { target := .collected D, args := #[] } :: a.defers } W) :
    (Code.rangeFunc g #[p] assign body).wpIn Fence.wide n Tryz.prog Q a w := by
  have hbl : bs < w.heap.size := hc.lt
  refine wpIn_rangeFunc ?_
  intro fn hfn
  obtain ⟨L, hL⟩ : ∃ L : LoopState → Option Code → Loop, L = fun st pe => { state := st, pending := pe, fn, tmps := a.tmps, params := #[p], assign, body, defers := w.heap.size } := ⟨_, rfl⟩
  obtain ⟨V, hV⟩ : ∃ V, (w.alloc (.deferred (some []))).alloc (.loop (L .ready none)) = V := ⟨_, rfl⟩
  have v1 : V.heap[w.heap.size + 1]? = some (.loop (L .ready none)) := by
    rw [← hV]
    have h := World.alloc_heap_new (w.alloc (.deferred (some []))) (.loop (L .ready none))
    rwa [World.size_alloc] at h
  have v0 : V.heap[w.heap.size]? = some (.deferred (some [])) := by
    rw [← hV]; exact (Below.heap_alloc _ _ _ (by simp)).trans (World.alloc_heap_new w _)
  have gr : ∀ (W : World) (o : Obj), W.grownBy (W.alloc o) none := fun W o => World.grownBy_alloc W o none
  have hIV : I 0 V := by
    rw [← hV]; exact hI _ _ _ _ (hI _ _ _ _ h0 (gr _ _) (fun r e => by cases e)) (gr _ _) (fun r e => by cases e)
  have hcV : ObjAt V bs 9 [.string s] := by rw [← hV]; exact (hc.alloc _).alloc _
  refine ⟨w.heap.size + 1, [{ target := .collected w.heap.size, args := #[] }], V, { target := .fn (.func 32) #[.pointer (some ⟨bs, 0, none⟩)], args := #[.func (.yield (w.heap.size + 1)) #[] #[]] }, V, 32,
    #[.func (.yield (w.heap.size + 1)) #[] #[], .pointer (some ⟨bs, 0, none⟩)], V, ?_, ?_, fun _ _ => trivial, ?_, fun _ => by omega, ?_⟩
  · rw [← hV, hL]; exact run_enterLoop_outer _ _ _ _ _
  · simp only [resolve, hg]
    simp [go_sem]
  · simp [invoke, go_sem]
  · have step : ∀ (W : World) (o' : Obj) (k : Nat), I k W → I k (W.putObj (w.heap.size + 1) o') := fun W o' k h =>
      hI _ _ _ _ h (grownBy_putObj' W (w.heap.size + 1) o') (fun x e => by cases e; exact .inr (.inr rfl))
    refine (linesIter (n - 1) (w.heap.size + 1) bs (by omega) s hsz
      (fun k W => I k W ∧ W.heap[w.heap.size + 1]? = some (.loop (L .ready none)) ∧ W.heap[w.heap.size]? = some (.deferred (some [])))
      (fun k A B row h hgr hrow => ?_) ?_ V hcV ⟨hIV, v1, v0⟩).mono ?_
    · obtain ⟨h1, h2, h3⟩ := h
      have ne : ∀ j, w.heap.size ≤ j → row ≠ some j := fun j hj e => by have := hrow j e; omega
      have l2 : w.heap.size + 1 < A.heap.size := (Array.getElem?_eq_some_iff.1 h2).1
      exact ⟨hI _ _ _ _ h1 hgr (fun r e => .inl (hrow r e)), (hgr.block _ l2 (fun e => ne _ (by omega) e.symm)).trans h2, (hgr.block _ (by omega) (fun e => ne _ (Nat.le_refl _) e.symm)).trans h3⟩
    · rintro k W x hx ⟨h1, h2, h3⟩
      have l2 : w.heap.size + 1 < W.heap.size := (Array.getElem?_eq_some_iff.1 h2).1
      have hy := run_yield (P := Tryz.prog) (args := #[.string x]) h2 (by rw [hL]; rfl)
      obtain ⟨W2, hW2⟩ : ∃ W2, W.putObj (w.heap.size + 1) (.loop { L .ready none with state := .busy }) = W2 := ⟨_, rfl⟩
      have hbg := run_beginRound (P := Tryz.prog) h2 (by rw [hL])
      rw [hW2] at hbg
      have b1 : I k W2 := by rw [← hW2]; exact step _ _ _ h1
      have b2 : W2.heap[w.heap.size + 1]? = some (.loop { L .ready none with state := .busy }) := by rw [← hW2]; exact World.putObj_heap_same l2
      have b3 : W2.heap[w.heap.size]? = some (.deferred (some [])) := by rw [← hW2]; exact (World.putObj_heap_other (by omega)).trans h3
      have b4 : W2.heap[bs]? = W.heap[bs]? := by rw [← hW2]; exact World.putObj_heap_other (by omega)
      clear hW2
      have hy2 : (Instr.yield (w.heap.size + 1) #[.string x]).run Tryz.prog W = .ok (.round (w.heap.size + 1) fn (a.tmps.setIfInBounds p (.string x)) assign body) W := by
        rw [hy, hL]
        simp
      refine ⟨fn, _, assign, body, hy2, roundIn_of_wpIn hfn (wpIn_mono (hassign _ x W (fun a' W' => a' = a₁ x ∧ W' = W) ⟨rfl, rfl⟩) ?_)⟩
      rintro e a3 W3 hp
      cases e with
      | normal =>
        obtain ⟨rfl, rfl⟩ := hp
        refine ⟨W2, hbg, wpIn_mono (hbody _ k x W2 (by omega) (Array.getElem?_eq_some_iff.1 b2).1 hx b1) ?_⟩
        rintro e a4 W4 hp
        cases e with
        | normal =>
          obtain ⟨⟨k3, k4⟩, b5, i4⟩ := hp
          have r4 := k4.trans b2
          have d4 := k3.trans b3
          have en := run_endRound (P := Tryz.prog) none r4
          refine ⟨_, _, en, rfl, ⟨step _ _ _ i4, ?_, (World.putObj_heap_other (by omega)).trans d4⟩, (World.putObj_heap_other (by omega)).trans (b5.trans b4)⟩
          rw [World.putObj_heap_same (Array.getElem?_eq_some_iff.1 r4).1, hL]
          rfl
        | _ => exact hp.elim
      | _ => exact hp.elim
    · rintro e W ⟨⟨v, rfl⟩, h1, h2, h3⟩
      have en := run_endLoop (P := Tryz.prog) h2 (by rw [hL]; simp)
      have e2 : (L .ready none).pending = none := by rw [hL]
      rw [e2] at en
      exact ⟨none, _, en, hdone _ _ (Nat.le_refl _) (step _ _ _ h1) ((World.putObj_heap_other (by omega)).trans h3)⟩
end Go.Proofs.YtlnghfmcofmkjaaGreatDoor

namespace Go.Proofs.YtlnghfmcofmkjaaGreatDoor
open Go.RowKit Go.Shelf

theorem RI_lines : ∀ (ls : List (List UInt8)) (A : Vals) (t : Nat), RI A t → t + ls.length ≤ 4000 → RI (linesV A ls) (t + ls.length) := by
  intro ls
  induction ls with
  | nil => intro A t h _; exact h
  | cons l ls ih =>
    intro A t h hl
    have h1 := ih (lineR A l).2 (t + 1) (RI_line h (by simp at hl; omega) l) (by simp at hl ⊢; omega)
    have e : t + 1 + ls.length = t + (l :: ls).length := by simp; omega
    rw [e] at h1
    exact h1
theorem nameL_le (e : Int) : (nameL e).length ≤ 9 := by
  unfold nameL
  repeat' split
  all_goals decide
theorem digL_le {n : Int} (h : numOk n) : (digL n).length ≤ 7 := by
  have h1 := rowL_le [n] (by intro m hm; simp at hm; subst hm; exact h)
  simpa [rowL] using h1
theorem row4_le {a b c d : Int} (h : rowOk a b c d) : (rowL [a, b, c, d]).length ≤ 28 :=
  rowL_le [a, b, c, d] (by intro n hx; simp at hx; rcases hx with rfl | rfl | rfl | rfl; exact h.1; exact h.2.1; exact h.2.2.1; exact h.2.2.2)
theorem hello_le {A : Vals} {t : Nat} (hI : RI A t) (ht : t < 4000) (a t0 t1 t2 t3 now : Int) : (helloR A a t0 t1 t2 t3 now).1.length ≤ 60 := by
  obtain ⟨_, k0, k1, k2, k3, k4, k5, k6, f, htx, _, hk, _, hc, _⟩ := rt_hello (B := 0) (b := 0) (r := 0) hI ht a t0 t1 t2 t3 now
  rw [htx]
  have h1 := nameL_le f
  have h2 := row4_le hk
  have h3 := digL_le (connN_num hc)
  split
  · omega
  · split
    · simp [retW] at h2 ⊢; omega
    · split
      · decide
      · simp [welW]; omega
theorem do_le {A : Vals} {t : Nat} (hI : RI A t) (ht : t < 4000) (w : List UInt8) (n : List Nat) : (doR A w n).1.length ≤ 60 := by
  unfold doR
  split
  · exact hello_le hI ht _ _ _ _ _ _
  · split
    · exact hello_le hI ht _ _ _ _ _ _
    · split
      · obtain ⟨_, c0, c1, c2, c3, f, htx, _, hk, _⟩ := rt_ticket (B := 0) (b := 0) (r := 0) hI ht ((n.getD 0 0 : Nat) : Int)
        rw [htx]
        have h1 := nameL_le f
        have h2 := row4_le hk
        split <;> omega
      · split
        · obtain ⟨_, x0, x1, f, htx, _, hc, _⟩ := rt_pull (B := 0) (b := 0) hI ht
          rw [htx]
          have h1 := nameL_le f
          split
          · rename_i h0; have := digL_le (connN_num (hc h0)); omega
          · omega
        · split
          · obtain ⟨_, t1, t2, t3, f, htx, _⟩ := rt_turn (B := 0) (b := 0) hI
            rw [htx]
            have h1 := nameL_le f
            split
            · decide
            · omega
          · split
            · show okW.length ≤ 60; decide
            · have h8 := hI.1.2.2.1
              have := digL_le (n := (A.zs.length : Int)) ⟨by omega, by omega⟩
              show (digL (A.zs.length : Int)).length ≤ 60
              omega
theorem line_le {A : Vals} {t : Nat} (hI : RI A t) (ht : t < 4000) (s : List UInt8) : (lineR A s).1.length ≤ 60 := by
  unfold lineR
  split
  · show badW.length ≤ 60; decide
  · exact do_le hI ht _ _
theorem linesR_le : ∀ (ls : List (List UInt8)) (A : Vals) (t : Nat), RI A t → t + ls.length ≤ 4000 → (linesR A ls).length ≤ 61 * ls.length := by
  intro ls
  induction ls with
  | nil => intro A t h _; simp [linesR]
  | cons l ls ih =>
    intro A t h hl
    have h1 := ih (lineR A l).2 (t + 1) (RI_line h (by simp at hl; omega) l) (by simp at hl ⊢; omega)
    have h2 := line_le h (by simp at hl; omega) l
    simp [linesR]
    omega
theorem linesL_le (l : List UInt8) : (linesL l).length ≤ l.length := by
  induction l with
  | nil => simp [linesL]
  | cons c l ih =>
    simp only [linesL]
    split
    · simp; omega
    · split
      · simp
      · rename_i h; rw [h] at ih; simp at ih ⊢; omega
theorem linesL_mem {l x : List UInt8} (h : x ∈ linesL l) : x.length ≤ l.length := by
  induction l generalizing x with
  | nil => simp [linesL] at h
  | cons c l ih =>
    simp only [linesL] at h
    split at h
    · rcases List.mem_cons.1 h with rfl | h
      · simp
      · have := ih h; simp; omega
    · split at h
      · simp at h; subst h; simp
      · rename_i y ys hy
        rw [hy] at ih
        rcases List.mem_cons.1 h with rfl | h
        · have := ih (List.mem_cons_self); simp; omega
        · have := ih (List.mem_cons_of_mem _ h); simp; omega
/-- a line without its byte 10, as bytes -/
def trimB (x : ByteArray) : ByteArray := ⟨(trimL x.data.toList).toArray⟩
theorem trim_lib (l : List UInt8) : Lib.trimSuffix l [10] = trimL l := by
  rcases List.eq_nil_or_concat l with rfl | ⟨a, c, rfl⟩
  · rfl
  · rw [List.concat_eq_append]
    unfold Lib.trimSuffix trimL Lib.hasSuffix
    by_cases hc : c = 10
    · subst hc
      have h1 : [10].isSuffixOf (a ++ [10]) = true := List.isSuffixOf_iff_suffix.2 ⟨a, rfl⟩
      rw [if_pos h1, if_pos (by simp)]
      simp
    · have h1 : ¬ [10].isSuffixOf (a ++ [c]) = true := fun h => by
        obtain ⟨t, ht⟩ := List.isSuffixOf_iff_suffix.1 h
        have := (List.append_inj' ht rfl).2
        simp at this
        exact hc this.symm
      rw [if_neg h1, if_neg (by simpa using hc)]
end Go.Proofs.YtlnghfmcofmkjaaGreatDoor
