/- A loop over strings.Lines: the law of its walk: the body is walked once, at the k-th line, with whatever the caller keeps between two rounds. -/
import Derived.Test.YtjbpkmmpbhngbaaGreatDoorLines
namespace Go.Proofs.YtjbpkmmpbhngbaaGreatDoor
open Go.RowKit Go.Shelf

theorem linesNew (s : ByteArray) (w : World) : Calls Tryz.prog 35 #[.string s] w fun e w' => e = .returned (.func (.func 63) #[] #[.pointer (some ⟨w.heap.size, 0, none⟩)]) ∧ w' = w.alloc (.cells #[.string s] 9) := by
  go_enter Tryz.func35, Tryz.ntmps35
  go_wp2
  go_ret
  exact ⟨rfl, rfl⟩

/-- how a round is left: off its end -/
def roundOk (B bs : Nat) (R : World → Prop) (W : World) : Exit → Act → World → Prop
  | .normal, _, W' => KeepsFrom B W W' ∧ W'.heap[bs]? = W.heap[bs]? ∧ R W'
  | _, _, _ => False
/-- what a caller may keep between two rounds -/
def StandsLn (B bs : Nat) (I : Nat → World → Prop) : Prop :=
  ∀ k W W' row, I k W → W.grownBy W' row → (∀ r, row = some r → r = bs ∨ (B ≤ r ∧ ∃ o : Obj, W.heap[r]? = some o ∧ o.isCells = false)) → I k W'
theorem wp_lines {n : Nat} (hn : 3 ≤ n) {g : Operand} {p : Tmp} {assign body : Code} {Q : Exit → Act → World → Prop} {a : Act} {w : World} {bs : Nat} {s : ByteArray} (hsz : s.size ≤ maxLen)
    (hg : a.eval g = .func (.func 63) #[] #[.pointer (some ⟨bs, 0, none⟩)]) (hc : ObjAt w bs 9 [.string s])
    (I : Nat → World → Prop) (hI : StandsLn w.heap.size bs I) (h0 : I 0 w) (a₁ : ByteArray → Act)
    (hassign : ∀ (l : Nat) (x : ByteArray) (W : World) (K : Act → World → Prop), K (a₁ x) W →
      assign.wpIn (Fence.wide.inRound l) (n - 1 - 1) Tryz.prog (Exit.then K (fun _ _ _ => False)) { tmps := a.tmps.setIfInBounds p (.string x), defers := [] } W)
    (hbody : ∀ (l k : Nat) (x : ByteArray) (W : World), w.heap.size ≤ l → (linesL s.data.toList)[k]? = some x.data.toList → I k W → body.wpIn (Fence.wide.inRound l) (n - 1 - 1) Tryz.prog (roundOk w.heap.size bs (I (k + 1)) W) (a₁ x) W)
    (hdone : ∀ (D : Nat) (W : World), w.heap.size ≤ D → I (linesL s.data.toList).length W → W.heap[D]? = some (.deferred (some [])) → Q .normal { a with defers := { target := .collected D, args := #[] } :: a.defers } W) :
    (Code.rangeFunc g #[p] assign body).wpIn Fence.wide n Tryz.prog Q a w := by
  have hbl : bs < w.heap.size := hc.lt
  refine wpIn_rangeFunc ?_
  intro fn hfn
  obtain ⟨L, hL⟩ : ∃ L : LoopState → Option Code → Loop, L = fun st pe => { state := st, pending := pe, fn, tmps := a.tmps, params := #[p], assign, body, defers := w.heap.size } := ⟨_, rfl⟩
  obtain ⟨V, hV⟩ : ∃ V, (w.alloc (.deferred (some []))).alloc (.loop (L .ready none)) = V := ⟨_, rfl⟩
  have v1 : V.heap[w.heap.size + 1]? = some (.loop (L .ready none)) := by
    rw [← hV]
    have h := World.alloc_heap_new (w.alloc (.deferred (some []))) (.loop (L .ready none))
    rwa [World.size_alloc] at h
  have v0 : V.heap[w.heap.size]? = some (.deferred (some [])) := by
    rw [← hV]; exact (Below.heap_alloc _ _ _ (by simp)).trans (World.alloc_heap_new w _)
  have gr : ∀ (W : World) (o : Obj), W.grownBy (W.alloc o) none := fun W o => World.grownBy_alloc W o none
  have hIV : I 0 V := by
    rw [← hV]; exact hI _ _ _ _ (hI _ _ _ _ h0 (gr _ _) (fun r e => by cases e)) (gr _ _) (fun r e => by cases e)
  have hcV : ObjAt V bs 9 [.string s] := by rw [← hV]; exact (hc.alloc _).alloc _
  refine ⟨w.heap.size + 1, [{ target := .collected w.heap.size, args := #[] }], V, { target := .fn (.func 63) #[.pointer (some ⟨bs, 0, none⟩)], args := #[.func (.yield (w.heap.size + 1)) #[] #[]] }, V, 63,
    #[.func (.yield (w.heap.size + 1)) #[] #[], .pointer (some ⟨bs, 0, none⟩)], V, ?_, ?_, fun _ _ => trivial, ?_, fun _ => by omega, ?_⟩
  · rw [← hV, hL]; exact run_enterLoop_outer _ _ _ _ _
  · simp only [resolve, hg]
    simp [go_sem]
  · simp [invoke, go_sem]
  · have step : ∀ (W : World) (r : Nat) (o o' : Obj) (k : Nat), I k W → w.heap.size ≤ r → W.heap[r]? = some o → o.isCells = false → I k (W.putObj r o') := fun W r o o' k h hr ho hk =>
      hI _ _ _ _ h (grownBy_putObj' W r o') (fun x e => by cases e; exact .inr ⟨hr, o, ho, hk⟩)
    refine (linesIter (n - 1) (w.heap.size + 1) bs (by omega) s hsz
      (fun k W => I k W ∧ W.heap[w.heap.size + 1]? = some (.loop (L .ready none)) ∧ W.heap[w.heap.size]? = some (.deferred (some [])))
      (fun k A B row h hgr hrow => ?_) ?_ V hcV ⟨hIV, v1, v0⟩).mono ?_
    · obtain ⟨h1, h2, h3⟩ := h
      have ne : ∀ j, w.heap.size ≤ j → row ≠ some j := fun j hj e => by have := hrow j e; omega
      have l2 : w.heap.size + 1 < A.heap.size := (Array.getElem?_eq_some_iff.1 h2).1
      exact ⟨hI _ _ _ _ h1 hgr (fun r e => .inl (hrow r e)), (hgr.block _ l2 (fun e => ne _ (by omega) e.symm)).trans h2, (hgr.block _ (by omega) (fun e => ne _ (Nat.le_refl _) e.symm)).trans h3⟩
    · rintro k W x hx ⟨h1, h2, h3⟩
      have l2 : w.heap.size + 1 < W.heap.size := (Array.getElem?_eq_some_iff.1 h2).1
      have hy := run_yield (P := Tryz.prog) (args := #[.string x]) h2 (by rw [hL]; rfl)
      obtain ⟨W2, hW2⟩ : ∃ W2, W.putObj (w.heap.size + 1) (.loop { L .ready none with state := .busy }) = W2 := ⟨_, rfl⟩
      have hbg := run_beginRound (P := Tryz.prog) h2 (by rw [hL])
      rw [hW2] at hbg
      have b1 : I k W2 := by rw [← hW2]; exact step _ _ _ _ _ h1 (by omega) h2 rfl
      have b2 : W2.heap[w.heap.size + 1]? = some (.loop { L .ready none with state := .busy }) := by rw [← hW2]; exact World.putObj_heap_same l2
      have b3 : W2.heap[w.heap.size]? = some (.deferred (some [])) := by rw [← hW2]; exact (World.putObj_heap_other (by omega)).trans h3
      have b4 : W2.heap[bs]? = W.heap[bs]? := by rw [← hW2]; exact World.putObj_heap_other (by omega)
      clear hW2
      have hy2 : (Instr.yield (w.heap.size + 1) #[.string x]).run Tryz.prog W = .ok (.round (w.heap.size + 1) fn (a.tmps.setIfInBounds p (.string x)) assign body) W := by
        rw [hy, hL]
        simp
      refine ⟨fn, _, assign, body, hy2, roundIn_of_wpIn hfn (wpIn_mono (hassign _ x W (fun a' W' => a' = a₁ x ∧ W' = W) ⟨rfl, rfl⟩) ?_)⟩
      rintro e a3 W3 hp
      cases e with
      | normal =>
        obtain ⟨rfl, rfl⟩ := hp
        refine ⟨W2, hbg, wpIn_mono (hbody _ k x W2 (by omega) hx b1) ?_⟩
        rintro e a4 W4 hp
        cases e with
        | normal =>
          obtain ⟨k4, b5, i4⟩ := hp
          have r4 := k4.same _ _ (by omega) b2 rfl
          have d4 := k4.same _ _ (Nat.le_refl _) b3 rfl
          have en := run_endRound (P := Tryz.prog) none r4
          refine ⟨_, _, en, rfl, ⟨step _ _ _ _ _ i4 (by omega) r4 rfl, ?_, (World.putObj_heap_other (by omega)).trans d4⟩, (World.putObj_heap_other (by omega)).trans (b5.trans b4)⟩
          rw [World.putObj_heap_same (Array.getElem?_eq_some_iff.1 r4).1, hL]
          rfl
        | _ => exact hp.elim
      | _ => exact hp.elim
    · rintro e W ⟨⟨v, rfl⟩, h1, h2, h3⟩
      have en := run_endLoop (P := Tryz.prog) h2 (by rw [hL]; simp)
      have e2 : (L .ready none).pending = none := by rw [hL]
      rw [e2] at en
      exact ⟨none, _, en, hdone _ _ (Nat.le_refl _) (step _ _ _ _ _ h1 (by omega) h2 rfl) ((World.putObj_heap_other (by omega)).trans h3)⟩
end Go.Proofs.YtjbpkmmpbhngbaaGreatDoor
