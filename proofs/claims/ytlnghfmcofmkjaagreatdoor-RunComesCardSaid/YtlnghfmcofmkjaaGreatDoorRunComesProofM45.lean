/- A loop over strings.Lines whose round keeps the loop's own two blocks (it may turn others): the law of its walk. run: what stands between two lines of a session. run: Run by contract. -/
import Derived.Test.YtlnghfmcofmkjaaGreatDoorRunComesProofM44
import Derived.Test.YtlnghfmcofmkjaaGreatDoorRunComesProofM43
import Derived.Stop.RegionWithIn
namespace Go.Proofs.YtlnghfmcofmkjaaGreatDoor
open Go.RowKit Go.Shelf

/-- how a round is left: off its end -/
def roundOk2 (B bs : Nat) (R : World → Prop) (W : World) : Exit → Act → World → Prop
  | .normal, _, W' => (W'.heap[B]? = W.heap[B]? ∧ W'.heap[B + 1]? = W.heap[B + 1]?) ∧ W'.heap[bs]? = W.heap[bs]? ∧ R W'
  | _, _, _ => False
/-- what a caller may keep between two rounds -/
def StandsLn2 (B bs : Nat) (I : Nat → World → Prop) : Prop :=
  ∀ k W W' row, I k W → W.grownBy W' row → (∀ r, row = some r → r = bs ∨ r = B ∨ r = B + 1) → I k W'
theorem wp_lines2 {n : Nat} (hn : 3 ≤ n) {g : Operand} {p : Tmp} {assign body : Code} {Q : Exit → Act → World → Prop} {a : Act} {w : World} {bs : Nat} {s : ByteArray} (hsz : s.size ≤ maxLen)
    (hg : a.eval g = .func (.func 32) #[] #[.pointer (some ⟨bs, 0, none⟩)]) (hc : ObjAt w bs 9 [.string s])
    (I : Nat → World → Prop) (hI : StandsLn2 w.heap.size bs I) (h0 : I 0 w) (a₁ : ByteArray → Act)
    (hassign : ∀ (l : Nat) (x : ByteArray) (W : World) (K : Act → World → Prop), K (a₁ x) W →
      assign.wpIn (Fence.wide.inRound l) (n - 1 - 1) Tryz.prog (Exit.then K (fun _ _ _ => False)) { tmps := a.tmps.setIfInBounds p (.string x), defers := [] } W)
    (hbody : ∀ (l k : Nat) (x : ByteArray) (W : World), w.heap.size ≤ l → w.heap.size + 1 < W.heap.size → (linesL s.data.toList)[k]? = some x.data.toList → I k W → body.wpIn (Fence.wide.inRound l) (n - 1 - 1) Tryz.prog (roundOk2 w.heap.size bs (I (k + 1)) W) (a₁ x) W)
    (hdone : ∀ (D : Nat) (W : World), w.heap.size ≤ D → I (linesL s.data.toList).length W → W.heap[D]? = some (.deferred (some [])) → Q .normal { a with defers := { target := .collected D, args := #[] } :: a.defers } W) :
    (Code.rangeFunc g #[p] assign body).wpIn Fence.wide n Tryz.prog Q a w := by
  have hbl : bs < w.heap.size := hc.lt
  refine wpIn_rangeFunc ?_
  intro fn hfn
  obtain ⟨L, hL⟩ : ∃ L : LoopState → Option Code → Loop, L = fun st pe => { state := st, pending := pe, fn, tmps := a.tmps, params := #[p], assign, body, defers := w.heap.size } := ⟨_, rfl⟩
  obtain ⟨V, hV⟩ : ∃ V, (w.alloc (.deferred (some []))).alloc (.loop (L .ready none)) = V := ⟨_, rfl⟩
  have v1 : V.heap[w.heap.size + 1]? = some (.loop (L .ready none)) := by
    rw [← hV]
    have h := World.alloc_heap_new (w.alloc (.deferred (some []))) (.loop (L .ready none))
    rwa [World.size_alloc] at h
  have v0 : V.heap[w.heap.size]? = some (.deferred (some [])) := by
    rw [← hV]; exact (Below.heap_alloc _ _ _ (by simp)).trans (World.alloc_heap_new w _)
  have gr : ∀ (W : World) (o : Obj), W.grownBy (W.alloc o) none := fun W o => World.grownBy_alloc W o none
  have hIV : I 0 V := by
    rw [← hV]; exact hI _ _ _ _ (hI _ _ _ _ h0 (gr _ _) (fun r e => by cases e)) (gr _ _) (fun r e => by cases e)
  have hcV : ObjAt V bs 9 [.string s] := by rw [← hV]; exact (hc.alloc _).alloc _
  refine ⟨w.heap.size + 1, [{ target := .collected w.heap.size, args := #[] }], V, { target := .fn (.func 32) #[.pointer (some ⟨bs, 0, none⟩)], args := #[.func (.yield (w.heap.size + 1)) #[] #[]] }, V, 32,
    #[.func (.yield (w.heap.size + 1)) #[] #[], .pointer (some ⟨bs, 0, none⟩)], V, ?_, ?_, fun _ _ => trivial, ?_, fun _ => by omega, ?_⟩
  · rw [← hV, hL]; exact run_enterLoop_outer _ _ _ _ _
  · simp only [resolve, hg]
    simp [go_sem]
  · simp [invoke, go_sem]
  · have step : ∀ (W : World) (o' : Obj) (k : Nat), I k W → I k (W.putObj (w.heap.size + 1) o') := fun W o' k h =>
      hI _ _ _ _ h (grownBy_putObj' W (w.heap.size + 1) o') (fun x e => by cases e; exact .inr (.inr rfl))
    refine (linesIter (n - 1) (w.heap.size + 1) bs (by omega) s hsz
      (fun k W => I k W ∧ W.heap[w.heap.size + 1]? = some (.loop (L .ready none)) ∧ W.heap[w.heap.size]? = some (.deferred (some [])))
      (fun k A B row h hgr hrow => ?_) ?_ V hcV ⟨hIV, v1, v0⟩).mono ?_
    · obtain ⟨h1, h2, h3⟩ := h
      have ne : ∀ j, w.heap.size ≤ j → row ≠ some j := fun j hj e => by have := hrow j e; omega
      have l2 : w.heap.size + 1 < A.heap.size := (Array.getElem?_eq_some_iff.1 h2).1
      exact ⟨hI _ _ _ _ h1 hgr (fun r e => .inl (hrow r e)), (hgr.block _ l2 (fun e => ne _ (by omega) e.symm)).trans h2, (hgr.block _ (by omega) (fun e => ne _ (Nat.le_refl _) e.symm)).trans h3⟩
    · rintro k W x hx ⟨h1, h2, h3⟩
      have l2 : w.heap.size + 1 < W.heap.size := (Array.getElem?_eq_some_iff.1 h2).1
      have hy := run_yield (P := Tryz.prog) (args := #[.string x]) h2 (by rw [hL]; rfl)
      obtain ⟨W2, hW2⟩ : ∃ W2, W.putObj (w.heap.size + 1) (.loop { L .ready none with state := .busy }) = W2 := ⟨_, rfl⟩
      have hbg := run_beginRound (P := Tryz.prog) h2 (by rw [hL])
      rw [hW2] at hbg
      have b1 : I k W2 := by rw [← hW2]; exact step _ _ _ h1
      have b2 : W2.heap[w.heap.size + 1]? = some (.loop { L .ready none with state := .busy }) := by rw [← hW2]; exact World.putObj_heap_same l2
      have b3 : W2.heap[w.heap.size]? = some (.deferred (some [])) := by rw [← hW2]; exact (World.putObj_heap_other (by omega)).trans h3
      have b4 : W2.heap[bs]? = W.heap[bs]? := by rw [← hW2]; exact World.putObj_heap_other (by omega)
      clear hW2
      have hy2 : (Instr.yield (w.heap.size + 1) #[.string x]).run Tryz.prog W = .ok (.round (w.heap.size + 1) fn (a.tmps.setIfInBounds p (.string x)) assign body) W := by
        rw [hy, hL]
        simp
      refine ⟨fn, _, assign, body, hy2, roundIn_of_wpIn hfn (wpIn_mono (hassign _ x W (fun a' W' => a' = a₁ x ∧ W' = W) ⟨rfl, rfl⟩) ?_)⟩
      rintro e a3 W3 hp
      cases e with
      | normal =>
        obtain ⟨rfl, rfl⟩ := hp
        refine ⟨W2, hbg, wpIn_mono (hbody _ k x W2 (by omega) (Array.getElem?_eq_some_iff.1 b2).1 hx b1) ?_⟩
        rintro e a4 W4 hp
        cases e with
        | normal =>
          obtain ⟨⟨k3, k4⟩, b5, i4⟩ := hp
          have r4 := k4.trans b2
          have d4 := k3.trans b3
          have en := run_endRound (P := Tryz.prog) none r4
          refine ⟨_, _, en, rfl, ⟨step _ _ _ i4, ?_, (World.putObj_heap_other (by omega)).trans d4⟩, (World.putObj_heap_other (by omega)).trans (b5.trans b4)⟩
          rw [World.putObj_heap_same (Array.getElem?_eq_some_iff.1 r4).1, hL]
          rfl
        | _ => exact hp.elim
      | _ => exact hp.elim
    · rintro e W ⟨⟨v, rfl⟩, h1, h2, h3⟩
      have en := run_endLoop (P := Tryz.prog) h2 (by rw [hL]; simp)
      have e2 : (L .ready none).pending = none := by rw [hL]
      rw [e2] at en
      exact ⟨none, _, en, hdone _ _ (Nat.le_refl _) (step _ _ _ h1) ((World.putObj_heap_other (by omega)).trans h3)⟩
end Go.Proofs.YtlnghfmcofmkjaaGreatDoor

namespace Go.Proofs.YtlnghfmcofmkjaaGreatDoor
open Go.RowKit Go.Shelf

theorem RI_lines : ∀ (ls : List (List UInt8)) (A : Vals) (t : Nat), RI A t → t + ls.length ≤ 4000 → RI (linesV A ls) (t + ls.length) := by
  intro ls
  induction ls with
  | nil => intro A t h _; exact h
  | cons l ls ih =>
    intro A t h hl
    have h1 := ih (lineR A l).2 (t + 1) (RI_line h (by simp at hl; omega) l) (by simp at hl ⊢; omega)
    have e : t + 1 + ls.length = t + (l :: ls).length := by simp; omega
    rw [e] at h1
    exact h1
theorem nameL_le (e : Int) : (nameL e).length ≤ 9 := by
  unfold nameL
  repeat' split
  all_goals decide
theorem digL_le {n : Int} (h : numOk n) : (digL n).length ≤ 7 := by
  have h1 := rowL_le [n] (by intro m hm; simp at hm; subst hm; exact h)
  simpa [rowL] using h1
theorem row4_le {a b c d : Int} (h : rowOk a b c d) : (rowL [a, b, c, d]).length ≤ 28 :=
  rowL_le [a, b, c, d] (by intro n hx; simp at hx; rcases hx with rfl | rfl | rfl | rfl; exact h.1; exact h.2.1; exact h.2.2.1; exact h.2.2.2)
theorem hello_le {A : Vals} {t : Nat} (hI : RI A t) (ht : t < 4000) (a t0 t1 t2 t3 now : Int) : (helloR A a t0 t1 t2 t3 now).1.length ≤ 60 := by
  obtain ⟨_, k0, k1, k2, k3, k4, k5, k6, f, htx, _, hk, _, hc, _⟩ := rt_hello (B := 0) (b := 0) (r := 0) hI ht a t0 t1 t2 t3 now
  rw [htx]
  have h1 := nameL_le f
  have h2 := row4_le hk
  have h3 := digL_le (connN_num hc)
  split
  · omega
  · split
    · simp [retW] at h2 ⊢; omega
    · split
      · decide
      · simp [welW]; omega
theorem do_le {A : Vals} {t : Nat} (hI : RI A t) (ht : t < 4000) (w : List UInt8) (n : List Nat) : (doR A w n).1.length ≤ 60 := by
  unfold doR
  split
  · exact hello_le hI ht _ _ _ _ _ _
  · split
    · exact hello_le hI ht _ _ _ _ _ _
    · split
      · obtain ⟨_, c0, c1, c2, c3, f, htx, _, hk, _⟩ := rt_ticket (B := 0) (b := 0) (r := 0) hI ht ((n.getD 0 0 : Nat) : Int)
        rw [htx]
        have h1 := nameL_le f
        have h2 := row4_le hk
        split <;> omega
      · split
        · obtain ⟨_, x0, x1, f, htx, _, hc, _⟩ := rt_pull (B := 0) (b := 0) hI ht
          rw [htx]
          have h1 := nameL_le f
          split
          · rename_i h0; have := digL_le (connN_num (hc h0)); omega
          · omega
        · split
          · obtain ⟨_, t1, t2, t3, f, htx, _⟩ := rt_turn (B := 0) (b := 0) hI
            rw [htx]
            have h1 := nameL_le f
            split
            · decide
            · omega
          · split
            · show okW.length ≤ 60; decide
            · have h8 := hI.1.2.2.1
              have := digL_le (n := (A.zs.length : Int)) ⟨by omega, by omega⟩
              show (digL (A.zs.length : Int)).length ≤ 60
              omega
theorem line_le {A : Vals} {t : Nat} (hI : RI A t) (ht : t < 4000) (s : List UInt8) : (lineR A s).1.length ≤ 60 := by
  unfold lineR
  split
  · show badW.length ≤ 60; decide
  · exact do_le hI ht _ _
theorem linesR_le : ∀ (ls : List (List UInt8)) (A : Vals) (t : Nat), RI A t → t + ls.length ≤ 4000 → (linesR A ls).length ≤ 61 * ls.length := by
  intro ls
  induction ls with
  | nil => intro A t h _; simp [linesR]
  | cons l ls ih =>
    intro A t h hl
    have h1 := ih (lineR A l).2 (t + 1) (RI_line h (by simp at hl; omega) l) (by simp at hl ⊢; omega)
    have h2 := line_le h (by simp at hl; omega) l
    simp [linesR]
    omega
theorem linesL_le (l : List UInt8) : (linesL l).length ≤ l.length := by
  induction l with
  | nil => simp [linesL]
  | cons c l ih =>
    simp only [linesL]
    split
    · simp; omega
    · split
      · simp
      · rename_i h; rw [h] at ih; simp at ih ⊢; omega
theorem linesL_mem {l x : List UInt8} (h : x ∈ linesL l) : x.length ≤ l.length := by
  induction l generalizing x with
  | nil => simp [linesL] at h
  | cons c l ih =>
    simp only [linesL] at h
    split at h
    · rcases List.mem_cons.1 h with rfl | h
      · simp
      · have := ih h; simp; omega
    · split at h
      · simp at h; subst h; simp
      · rename_i y ys hy
        rw [hy] at ih
        rcases List.mem_cons.1 h with rfl | h
        · have := ih (List.mem_cons_self); simp; omega
        · have := ih (List.mem_cons_of_mem _ h); simp; omega
/-- a line without its byte 10, as bytes -/
def trimB (x : ByteArray) : ByteArray := ⟨(trimL x.data.toList).toArray⟩
theorem trim_lib (l : List UInt8) : Lib.trimSuffix l [10] = trimL l := by
  rcases List.eq_nil_or_concat l with rfl | ⟨a, c, rfl⟩
  · rfl
  · rw [List.concat_eq_append]
    unfold Lib.trimSuffix trimL Lib.hasSuffix
    by_cases hc : c = 10
    · subst hc
      have h1 : [10].isSuffixOf (a ++ [10]) = true := List.isSuffixOf_iff_suffix.2 ⟨a, rfl⟩
      rw [if_pos h1, if_pos (by simp)]
      simp
    · have h1 : ¬ [10].isSuffixOf (a ++ [c]) = true := fun h => by
        obtain ⟨t, ht⟩ := List.isSuffixOf_iff_suffix.1 h
        have := (List.append_inj' ht rfl).2
        simp at this
        exact hc this.symm
      rw [if_neg h1, if_neg (by simpa using hc)]
end Go.Proofs.YtlnghfmcofmkjaaGreatDoor

namespace Go.Proofs.YtlnghfmcofmkjaaGreatDoor
open Go.RowKit Go.Shelf
attribute [local go_sem] Oper.semAt_some

/-- what stands between two lines: the builder at bb, the server at b, the desk's box at db; C, C + 1: the loop's own blocks; bs: the rest of the text -/
def RunI (w : World) (K B C b db bb bs : Nat) (ls : List (List UInt8)) (k : Nat) (W : World) : Prop :=
  ∃ v F, BW W bb v (linesR firstV (ls.take k)) ∧ RealAt W B b 50 (linesV firstV (ls.take k)) F ∧ ObjAt W db 37 [.pointer (some ⟨b, 0, none⟩)] ∧ EnvR K W ∧ Below w.heap.size w W ∧
    (∀ x ∈ F, x ≠ db ∧ x ∉ bwF bb v ∧ x ≠ bs ∧ x ≠ C ∧ x ≠ C + 1) ∧ (∀ x ∈ bwF bb v, x ≠ db ∧ x ≠ bs ∧ x ≠ C ∧ x ≠ C + 1) ∧ (db ≠ bs ∧ db < C ∧ bs < C) ∧ C ≤ W.heap.size
theorem runI_stands {w : World} {K B C b db bb bs : Nat} (hK : K ≤ w.heap.size) (hbs : w.heap.size ≤ bs) (hC : w.heap.size ≤ C) (ls : List (List UInt8)) : StandsLn2 C bs (RunI w K B C b db bb bs ls) := by
  rintro k W W' row ⟨v, F, h1, h2, h3, h4, h5, h6, h7, h8, h9⟩ hg hr
  have hk : Kept [bs, C, C + 1] W W' := (Kept.refl _ _).grown hg (fun x e => .inl (by rcases hr x e with rfl | rfl | rfl <;> simp))
  have hb : Below w.heap.size W W' := hk.below h5.size (fun x hx => by simp at hx; omega)
  refine ⟨v, F, h1.kept hk (fun x hx hm => ?_), h2.kept hk (fun x hx hm => ?_), hk.obj h3 (fun hm => ?_), h4.below hb hK, h5.trans hb, h6, h7, h8, Nat.le_trans h9 hk.size⟩
  · have := h7 x hx; simp at hm; omega
  · have := h6 x hx; simp at hm; omega
  · simp at hm; omega
/-- one line behind k -/
theorem runI_step {ls : List (List UInt8)} {k : Nat} {l : List UInt8} (h : ls[k]? = some l) : linesR firstV (ls.take (k + 1)) = linesR firstV (ls.take k) ++ ((lineR (linesV firstV (ls.take k)) l).1 ++ [10]) ∧ linesV firstV (ls.take (k + 1)) = (lineR (linesV firstV (ls.take k)) l).2 := by
  obtain ⟨hlt, hget⟩ := List.getElem?_eq_some_iff.1 h
  rw [List.take_succ_eq_append_getElem hlt, hget, linesR_app, linesV_app]
  exact ⟨by simp [linesR], rfl⟩
theorem runI_next {w : World} {K B C b db bb bs : Nat} {ls : List (List UInt8)} {k : Nat} {W : World} {v : Value} {F : List Nat} {s : ByteArray} (hK : K ≤ w.heap.size) (hB : w.heap.size ≤ B) (hbb : w.heap.size ≤ bb) (hz : C + 1 < W.heap.size) (hx : ls[k]? = some s.data.toList)
    (h1 : BW W bb v (linesR firstV (ls.take k))) (h2 : RealAt W B b 50 (linesV firstV (ls.take k)) F) (h3 : ObjAt W db 37 [.pointer (some ⟨b, 0, none⟩)]) (h4 : EnvR K W) (h5 : Below w.heap.size w W)
    (h6 : ∀ x ∈ F, x ≠ db ∧ x ∉ bwF bb v ∧ x ≠ bs ∧ x ≠ C ∧ x ≠ C + 1) (h7 : ∀ x ∈ bwF bb v, x ≠ db ∧ x ≠ bs ∧ x ≠ C ∧ x ≠ C + 1) (h8 : db ≠ bs ∧ db < C ∧ bs < C)
    {w2 w3 : World} {F' : List Nat} {v' : Value} (g1 : RealAt w2 B b 50 (lineR (linesV firstV (ls.take k)) s.data.toList).2 F') (g2 : SVst F F' W w2) (g3 : BW w3 bb v' (linesR firstV (ls.take k) ++ (ansB (linesV firstV (ls.take k)) s ++ ⟨#[10]⟩).data.toList)) (g4 : Kept (bwF bb v) w2 w3) (g5 : v'.ownBlock = v.ownBlock ∨ ∃ g, v'.ownBlock = some g ∧ w2.heap.size ≤ g) :
    (w3.heap[C]? = W.heap[C]? ∧ w3.heap[C + 1]? = W.heap[C + 1]?) ∧ w3.heap[bs]? = W.heap[bs]? ∧ RunI w K B C b db bb bs ls (k + 1) w3 := by
  obtain ⟨e1, e2⟩ := runI_step hx
  have z2 := g2.1.size
  have z3 := g4.size
  have same : ∀ j, j < W.heap.size → j ∉ F → j ∉ bwF bb v → w3.heap[j]? = W.heap[j]? := fun j hj a1 a2 => (g4.block j (by omega) a2).trans (g2.1.block j hj a1)
  have nF : ∀ j, (∀ x ∈ F, x ≠ j) → j ∉ F := fun j hj hm => hj j hm rfl
  have nB : ∀ j, (∀ x ∈ bwF bb v, x ≠ j) → j ∉ bwF bb v := fun j hj hm => hj j hm rfl
  have bwl := h1.lt
  have nF' : ∀ x ∈ F', x ∈ F ∨ W.heap.size ≤ x := g2.2
  have hbv : ∀ x ∈ bwF bb v', x ∈ bwF bb v ∨ w2.heap.size ≤ x := fun x hx' => by
    rcases mem_bwF.1 hx' with rfl | hx'
    · exact .inl (mem_bwF.2 (.inl rfl))
    · rcases g5 with e | ⟨g, e, hg⟩
      · exact .inl (mem_bwF.2 (.inr (by rw [← e]; exact hx')))
      · rw [hx'] at e; have := Option.some.inj e; exact .inr (by omega)
  have hB2 : Below w.heap.size W w2 := g2.1.below h5.size (fun x hx' => by have := (h2.lt x hx').1; omega)
  have hB3 : Below w.heap.size w2 w3 := g4.below (by have := h5.size; omega) (fun x hx' => by have := (bwl x hx').1; omega)
  refine ⟨⟨same C (by omega) (nF _ fun x hx' => (h6 x hx').2.2.2.1) (nB _ fun x hx' => (h7 x hx').2.2.1), same (C + 1) hz (nF _ fun x hx' => (h6 x hx').2.2.2.2) (nB _ fun x hx' => (h7 x hx').2.2.2)⟩, same bs (by omega) (nF _ fun x hx' => (h6 x hx').2.2.1) (nB _ fun x hx' => (h7 x hx').2.1),
    v', F', ?_, ?_, (same db (by omega) (nF _ fun x hx' => (h6 x hx').1) (nB _ fun x hx' => (h7 x hx').1)).trans h3, (h4.below hB2 hK).below hB3 hK, h5.trans (hB2.trans hB3), fun x hx' => ?_, fun x hx' => ?_, h8, by omega⟩
  · rw [e1]
    have : (ansB (linesV firstV (ls.take k)) s ++ ⟨#[10]⟩).data.toList = (lineR (linesV firstV (ls.take k)) s.data.toList).1 ++ [10] := by simp [ansB]
    rw [← this]
    exact g3
  · rw [e2]
    refine g1.kept g4 (fun x hx' hm => ?_)
    rcases nF' x hx' with hf | hf
    · exact (h6 x hf).2.1 hm
    · have := (bwl x hm).2; omega
  · have hnb : x ∉ bwF bb v' := fun hm => by
      have hxl := (g1.lt x hx').2
      rcases hbv x hm with hm | hm
      · rcases nF' x hx' with hf | hf
        · exact (h6 x hf).2.1 hm
        · have := (bwl x hm).2; omega
      · omega
    rcases nF' x hx' with hf | hf
    · obtain ⟨a1, _, a3, a4, a5⟩ := h6 x hf
      exact ⟨a1, hnb, a3, a4, a5⟩
    · exact ⟨by omega, hnb, by omega, by omega, by omega⟩
  · rcases hbv x hx' with hm | hm
    · exact h7 x hm
    · exact ⟨by omega, by omega, by omega, by omega⟩
/-- the answers to a text, as bytes -/
def runB (t : ByteArray) : ByteArray := ⟨(runL t.data.toList).toArray⟩
set_option maxRecDepth 100000 in
set_option maxHeartbeats 4000000 in
theorem runLong (t : ByteArray) (hsz : t.size ≤ 9223372036854775807) (h : 3000 < t.size) (w : World) : Calls Tryz.prog 6 #[.string t] w fun e w' => e = .returned (.string (runB t)) ∧ Below w.heap.size w w' := by
  have e : runB t = ⟨#[116, 111, 111, 32, 108, 111, 110, 103, 10]⟩ := by
    unfold runB runL
    rw [if_pos (by simpa using h)]
    rfl
  rw [e]
  clear e
  refine (callsIn_wide (n := 3)).1 ?_
  refine callsIn_of_wp_marks Tryz.func6 rfl trivial ?_ rfl
  simp only [Tryz.ntmps6, List.size_toArray, List.length_cons, List.length_nil, Nat.reduceAdd, Nat.reduceSub, Array.replicate_succ, Array.replicate_zero, List.push_toArray, List.append_toArray, List.nil_append, List.cons_append]
  gi_wp2
  exact ⟨.string ⟨#[116, 111, 111, 32, 108, 111, 110, 103, 10]⟩, by simp [results, Tryz.f6, go_sem], rfl, Below.refl _ _⟩
set_option maxRecDepth 100000 in
set_option maxHeartbeats 8000000 in
theorem runShort (t : ByteArray) (h : t.size ≤ 3000) (K : Nat) (w : World) (hE : EnvR K w) (hK : K ≤ w.heap.size) : Calls Tryz.prog 6 #[.string t] w fun e w' => e = .returned (.string (runB t)) ∧ Below w.heap.size w w' := by
  have SV := hide (svNew (seed := 7) (li := 50) (by decide) (by decide) w)
  have LN := hide (fun W => linesNew t W)
  have HE := hide hE
  have HK := hide hK
  clear hE hK
  refine (callsIn_wide (n := 3)).1 ?_
  refine callsIn_of_wp_marks Tryz.func6 rfl trivial ?_ rfl
  simp only [Tryz.ntmps6, List.size_toArray, List.length_cons, List.length_nil, Nat.reduceAdd, Nat.reduceSub, Array.replicate_succ, Array.replicate_zero, List.push_toArray, List.append_toArray, List.nil_append, List.cons_append]
  gi_wp2_with fail
  refine ⟨trivial, ?_⟩
  have hn1 : 1 ≤ 3 := by omega
  gi_at_call 11
  refine (callsIn_wide.2 SV.out).mono ?_
  rintro e w1 ⟨b, q, bi, bb0, bv, rfl, hsv, hb1⟩
  have HSV := hide hsv
  have HB1 := hide hb1
  clear hsv hb1
  gi_wp2_with fail
  refine ⟨trivial, ?_⟩
  gi_at_call 12
  refine (callsIn_wide.2 (LN.out _)).mono ?_
  rintro e w2 ⟨rfl, rfl⟩
  gi_wp2
  obtain ⟨W0, hW0⟩ : ∃ W0, W0 = (((w1.alloc (.cells #[.pointer (some ⟨b, 0, none⟩)] 37)).alloc (.cells #[.pointer none, .slice none 0 0] 41)).alloc (.cells #[.string t] 9)) := ⟨_, rfl⟩
  obtain ⟨bs, hbs⟩ : ∃ x, x = w1.heap.size + 1 + 1 := ⟨_, rfl⟩
  obtain ⟨bb, hbb⟩ : ∃ x, x = w1.heap.size + 1 := ⟨_, rfl⟩
  obtain ⟨db, hdb⟩ : ∃ x, x = w1.heap.size := ⟨_, rfl⟩
  rw [← hbs, ← hbb, ← hdb, ← hW0]
  have hz0 : W0.heap.size = bs + 1 := by rw [hW0]; simp; omega
  have hbs0 : ObjAt W0 bs 9 [.string t] := by rw [hW0]; exact objNew (by simp; omega)
  have hdb0 : ObjAt W0 db 37 [.pointer (some ⟨b, 0, none⟩)] := by rw [hW0]; exact ((objNew hdb).alloc _).alloc _
  have hbw0 : BW W0 bb (.slice none 0 0) [] := by
    have h1 := BW.new (w1.alloc (.cells #[.pointer (some ⟨b, 0, none⟩)] 37))
    have e1 : (w1.alloc (.cells #[.pointer (some ⟨b, 0, none⟩)] 37)).heap.size = bb := by simp; omega
    rw [e1] at h1
    rw [hW0]
    exact h1.kept ((Kept.refl [] _).alloc _) (by simp)
  have hk0 : Below w1.heap.size w1 W0 := by rw [hW0]; exact (((Below.refl _ _).alloc (Nat.le_refl _) _).alloc (by simp) _).alloc (by simp; omega) _
  have hb0 : Below w.heap.size w W0 := HB1.out.trans (hk0.mono HB1.out.size)
  have hF0 : RealAt w1 w.heap.size b 50 firstV (svF b q bi bb0 bv (.slice none 0 0) (.slice none 0 0) (.slice none 0 0)) := ⟨q, bi, bb0, bv, _, _, _, HSV.out, rfl⟩
  have hI0 : RunI w K w.heap.size W0.heap.size b db bb bs (textL t.data.toList) 0 W0 := by
    refine ⟨_, _, hbw0, hF0.kept (Kept.of_below hk0 []) (by simp), hdb0, HE.out.below hb0 HK.out, hb0, fun x hx => ?_, fun x hx => ?_, ⟨by omega, by omega, by omega⟩, Nat.le_refl _⟩
    · have h1 := (hF0.lt x hx).2
      refine ⟨by omega, fun hm => ?_, by omega, by omega, by omega⟩
      have := (hbw0.lt x hm).1
      omega
    · have h1 := hbw0.lt x hx
      rcases mem_bwF.1 hx with rfl | hm
      · omega
      · simp [Value.ownBlock] at hm
  have hll : (linesL t.data.toList).length ≤ 3000 := Nat.le_trans (linesL_le _) (by simpa using h)
  have hw1z := HB1.out.size
  have HST := hide (runI_stands (w := w) (K := K) (B := w.heap.size) (C := W0.heap.size) (b := b) (db := db) (bb := bb) (bs := bs) HK.out (by omega) (by omega) (textL t.data.toList))
  have hbbw : w.heap.size ≤ bb := by omega
  have hCw : w.heap.size ≤ W0.heap.size := hb0.size
  have HC := hide hCw
  have HLL := hide hll
  have HI0 := hide hI0
  have HBS := hide hbs0
  clear hbs hbb hdb hW0 hz0 hbs0 hdb0 hbw0 hk0 hb0 hF0 hI0 hll hw1z HSV SV LN hCw
  generalize hCg : W0.heap.size = C at HST HI0 HC
  refine wp_lines2 (n := 3) (by omega) (by unfold maxLen; omega) rfl HBS.out (RunI w K w.heap.size C b db bb bs (textL t.data.toList)) (by rw [hCg]; exact HST.out) HI0.out
    (fun x => { tmps := #[.string t, undef, .string ⟨#[]⟩, .pointer (some ⟨b, 0, none⟩), .nilIface, .pointer (some ⟨db, 0, none⟩), .pointer (some ⟨bb, 0, none⟩), .string x, .string t, .int .i64 (t.size : Int), .bool (decide ((3000 : Int) < (t.size : Int))), .tuple #[.pointer (some ⟨b, 0, none⟩), .nilIface], .tuple #[.pointer (some ⟨b, 0, none⟩), .nilIface], .pointer (some ⟨b, 0, none⟩), .nilIface, .nilIface, .bool false, .pointer (some ⟨b, 0, none⟩), .agg #[.pointer (some ⟨b, 0, none⟩)], .string t,
        .func (.func 32) #[] #[.pointer (some ⟨bs, 0, none⟩)], .string x, undef, undef, undef, undef, undef, undef, undef], defers := [] }) ?assign ?body ?done
  case assign =>
    intro l x W Kc hKc
    gi_wp2
    exact hKc
  case body =>
    rintro l k x W hl hC1 hx ⟨v, F, h1, h2, h3, h4, h5, h6, h7, h8, h9⟩
    rw [hCg] at hC1 ⊢
    have hxk : (textL t.data.toList)[k]? = some (trimB x).data.toList := by
      unfold textL trimB
      rw [List.getElem?_map, hx]
      rfl
    have hkl : k < 3000 := by
      have := (List.getElem?_eq_some_iff.1 hx).1
      have := HLL.out
      omega
    have hxs : x.size ≤ 3000 := by
      have h10 := linesL_mem (List.mem_of_getElem? hx)
      simp at h10
      omega
    have hys : (trimB x).size ≤ 3000 := by
      have h11 : (trimB x).size = (trimL x.data.toList).length := by unfold trimB; rw [← List.size_toArray]; rfl
      have h12 : (trimL x.data.toList).length ≤ x.data.toList.length := by unfold trimL; split <;> simp
      have h13 : x.data.toList.length = x.size := by simp
      omega
    have hRI := RI_lines ((textL t.data.toList).take k) firstV 0 RI.first (by rw [List.length_take]; omega)
    have hRIk : RI (linesV firstV ((textL t.data.toList).take k)) k := by
      have e : 0 + ((textL t.data.toList).take k).length = k := by
        have := (List.getElem?_eq_some_iff.1 hxk).1
        rw [List.length_take]; omega
      rw [e] at hRI
      exact hRI
    have hle := linesR_le ((textL t.data.toList).take k) firstV 0 RI.first (by rw [List.length_take]; omega)
    rw [List.length_take] at hle
    have hal : (ansB (linesV firstV ((textL t.data.toList).take k)) (trimB x)).size ≤ 60 := by
      have h14 := line_le hRIk (by omega) (trimB x).data.toList
      have h15 : (ansB (linesV firstV ((textL t.data.toList).take k)) (trimB x)).size = (lineR (linesV firstV ((textL t.data.toList).take k)) (trimB x).data.toList).1.length := by unfold ansB; rw [← List.size_toArray]; rfl
      omega
    have e10 : (⟨#[10]⟩ : ByteArray).size = 1 := rfl
    have TR := hide (fun W' => (Tryz.strings_TrimSuffix x ⟨#[10]⟩ W' (by omega)).mono (R' := fun e w' => e = .returned (.string (trimB x)) ∧ W' = w') (fun e w' ⟨q1, q2⟩ => ⟨by rw [q1]; unfold trimB; rw [← trim_lib], q2.symm⟩))
    have AN := hide (fun W' (hb : Below W.heap.size W W') => rdAnswer (B := w.heap.size) (b := b) hRIk (by omega) (s := trimB x) (by omega) K W' F (h2.kept (Kept.of_below hb []) (by simp)) (h4.below hb (by have := h5.size; have := HK.out; omega)) HK.out (by have := h5.size; have := hb.size; omega))
    have WR := hide (fun w2 (hk : Kept F W w2) => bwWrite (ansB (linesV firstV ((textL t.data.toList).take k)) (trimB x) ++ ⟨#[10]⟩) (by rw [ByteArray.size_append]; omega) w2 (h1.kept hk (fun y hy hm => (h6 y hm).2.1 hy)))
    have NX := hide (fun (w2 w3 : World) (F' : List Nat) (v' : Value) (g1 : RealAt w2 w.heap.size b 50 (lineR (linesV firstV ((textL t.data.toList).take k)) (trimB x).data.toList).2 F') (g2 : SVst F F' W w2) (g3 : BW w3 bb v' (linesR firstV ((textL t.data.toList).take k) ++ (ansB (linesV firstV ((textL t.data.toList).take k)) (trimB x) ++ ⟨#[10]⟩).data.toList)) (g4 : Kept (bwF bb v) w2 w3) (g5 : v'.ownBlock = v.ownBlock ∨ ∃ g, v'.ownBlock = some g ∧ w2.heap.size ≤ g) => runI_next HK.out (Nat.le_refl _) hbbw hC1 hxk h1 h2 h3 h4 h5 h6 h7 h8 g1 g2 g3 g4 g5)
    have d0 := h3.cell (i := 0) rfl
    have dF : ∀ w2, Kept F W w2 → w2.cell? ⟨db, 0, none⟩ = some (.pointer (some ⟨b, 0, none⟩)) := fun w2 hk => (hk.obj h3 (fun hm => (h6 _ hm).1 rfl)).cell (i := 0) rfl
    have DF := hide dF
    unfold AnsPost at AN
    generalize ansB (linesV firstV ((textL t.data.toList).take k)) (trimB x) = an at hal WR NX AN
    generalize linesR firstV ((textL t.data.toList).take k) = ll at WR NX hle h1
    clear e10 hx hxk hkl hxs hys hRI hRIk hle h1 h2 h3 h4 h5 h6 h7 h8 h9 dF
    unfold deskV at AN
    have hn2 : 1 ≤ 3 - 1 - 1 := by omega
    gi_wp2_with fail
    gi_region_with (first
      | (refine ⟨trivial, ?_⟩; gi_at_call 15; refine (CallsIn.inRound l (callsIn_wide.2 (TR.out _))).mono ?_; rintro e w2 ⟨rfl, rfl⟩)
      | (refine ⟨trivial, ?_⟩; gi_at_call 14; refine (CallsIn.inRound l (callsIn_wide.2 (AN.out _ (by go_grown)))).mono ?_; rintro e w2 ⟨rfl, F', hR2, hs2⟩)
      | (refine ⟨trivial, ?_⟩; gi_at_call 13; refine (CallsIn.inRound l (callsIn_wide.2 (WR.out _ (by first | exact hs2.1 | exact ((Kept.refl F _).drew).trans hs2.1)))).mono ?_; rintro e w3 ⟨rfl, v', hb3, hk3, hv3⟩))
    all_goals
      have hs3 : SVst F F' W w2 := (by first | exact hs2 | exact hs2.pre (Below.refl _ _).drew)
      exact NX.out _ _ _ _ hR2 hs3 hb3 hk3 hv3
  case done =>
    rintro D W hD ⟨v, F, h1, h2, h3, h4, h5, h6, h7, h8, h9⟩ hK
    have hlen : (textL t.data.toList).take (linesL t.data.toList).length = textL t.data.toList := List.take_of_length_le (by unfold textL; rw [List.length_map]; exact Nat.le_refl _)
    rw [hlen] at h1
    have hrb : (⟨(linesR firstV (textL t.data.toList)).toArray⟩ : ByteArray) = runB t := by
      unfold runB runL
      rw [if_neg (by simpa using h)]
    have hDb : D ≠ bb := fun e => by
      obtain ⟨p, _, ho⟩ := h1.hd
      have ho' : W.heap[bb]? = some (.cells #[p, v] 41 (0, 0)) := ho
      rw [← e, hK] at ho'
      cases ho'
    have hbl := (h1.lt bb (mem_bwF.2 (.inl rfl))).2
    have BI := hide (Tryz.Builder_String_any_k bb bb _ W h1.isB (by omega))
    rw [hrb] at BI
    have HKD := hide hK
    have HW5 := hide h5
    have hDw : w.heap.size ≤ D := by have := HC.out; omega
    clear h1 h2 h3 h4 h5 h6 h7 h8 h9 hK hlen hrb hbl
    gi_wp2_with fail
    refine ⟨trivial, ?_⟩
    gi_at_call 16
    refine (callsIn_wide.2 BI.out).mono ?_
    rintro e w3 ⟨rfl, _, hB3, hO3⟩
    have hK3 : w3.heap[D]? = some (.deferred (some [])) := hO3 D _ HKD.out (fun e => hDb (Option.some.inj e)) (fun c fz e => by cases e)
    have hb3 : Below w.heap.size w w3 := HW5.out.trans (hB3.mono hbbw)
    have hfin : Below w.heap.size w (w3.putObj D (.deferred none)) := hb3.grown (grownBy_putObj' w3 D (.deferred none)) hb3.size (fun k e => by cases e; exact hDw)
    have HF := hide hfin
    have HK3 := hide hK3
    clear hB3 hO3 hK3 hb3 hfin
    gi_wp2
    refine ⟨by simp, .inl ⟨_, _, rfl, run_takeDeferred HK3.out, ?_⟩⟩
    exact ⟨.string (runB t), by simp [results, Tryz.f6, go_sem], rfl, HF.out⟩
theorem runRun (t : ByteArray) (hsz : t.size ≤ 9223372036854775807) (K : Nat) (w : World) (hE : EnvR K w) (hK : K ≤ w.heap.size) : Calls Tryz.prog 6 #[.string t] w fun e w' => e = .returned (.string (runB t)) ∧ Below w.heap.size w w' := by
  by_cases h : t.size ≤ 3000
  · exact runShort t h K w hE hK
  · exact runLong t hsz (by omega) w
end Go.Proofs.YtlnghfmcofmkjaaGreatDoor
