/- run: Run by contract. RunBegins: the law's walk. -/
import Derived.Test.YtlnghfmcofmkjaaGreatDoorRunAnswersProofM46
namespace Go.Proofs.YtlnghfmcofmkjaaGreatDoor
open Go.RowKit Go.Shelf
attribute [local go_sem] Oper.semAt_some

/-- what stands between two lines: the builder at bb, the server at b, the desk's box at db; C, C + 1: the loop's own blocks; bs: the rest of the text -/
def RunI (w : World) (K B C b db bb bs : Nat) (ls : List (List UInt8)) (k : Nat) (W : World) : Prop :=
  ∃ v F, BW W bb v (linesR firstV (ls.take k)) ∧ RealAt W B b 50 (linesV firstV (ls.take k)) F ∧ ObjAt W db 37 [.pointer (some ⟨b, 0, none⟩)] ∧ EnvR K W ∧ Below w.heap.size w W ∧
    (∀ x ∈ F, x ≠ db ∧ x ∉ bwF bb v ∧ x ≠ bs ∧ x ≠ C ∧ x ≠ C + 1) ∧ (∀ x ∈ bwF bb v, x ≠ db ∧ x ≠ bs ∧ x ≠ C ∧ x ≠ C + 1) ∧ (db ≠ bs ∧ db < C ∧ bs < C) ∧ C ≤ W.heap.size
theorem runI_stands {w : World} {K B C b db bb bs : Nat} (hK : K ≤ w.heap.size) (hbs : w.heap.size ≤ bs) (hC : w.heap.size ≤ C) (ls : List (List UInt8)) : StandsLn2 C bs (RunI w K B C b db bb bs ls) := by
  rintro k W W' row ⟨v, F, h1, h2, h3, h4, h5, h6, h7, h8, h9⟩ hg hr
  have hk : Kept [bs, C, C + 1] W W' := (Kept.refl _ _).grown hg (fun x e => .inl (by rcases hr x e with rfl | rfl | rfl <;> simp))
  have hb : Below w.heap.size W W' := hk.below h5.size (fun x hx => by simp at hx; omega)
  refine ⟨v, F, h1.kept hk (fun x hx hm => ?_), h2.kept hk (fun x hx hm => ?_), hk.obj h3 (fun hm => ?_), h4.below hb hK, h5.trans hb, h6, h7, h8, Nat.le_trans h9 hk.size⟩
  · have := h7 x hx; simp at hm; omega
  · have := h6 x hx; simp at hm; omega
  · simp at hm; omega
/-- one line behind k -/
theorem runI_step {ls : List (List UInt8)} {k : Nat} {l : List UInt8} (h : ls[k]? = some l) : linesR firstV (ls.take (k + 1)) = linesR firstV (ls.take k) ++ ((lineR (linesV firstV (ls.take k)) l).1 ++ [10]) ∧ linesV firstV (ls.take (k + 1)) = (lineR (linesV firstV (ls.take k)) l).2 := by
  obtain ⟨hlt, hget⟩ := List.getElem?_eq_some_iff.1 h
  rw [List.take_succ_eq_append_getElem hlt, hget, linesR_app, linesV_app]
  exact ⟨by simp [linesR], rfl⟩
theorem runI_next {w : World} {K B C b db bb bs : Nat} {ls : List (List UInt8)} {k : Nat} {W : World} {v : Value} {F : List Nat} {s : ByteArray} (hK : K ≤ w.heap.size) (hB : w.heap.size ≤ B) (hbb : w.heap.size ≤ bb) (hz : C + 1 < W.heap.size) (hx : ls[k]? = some s.data.toList)
    (h1 : BW W bb v (linesR firstV (ls.take k))) (h2 : RealAt W B b 50 (linesV firstV (ls.take k)) F) (h3 : ObjAt W db 37 [.pointer (some ⟨b, 0, none⟩)]) (h4 : EnvR K W) (h5 : Below w.heap.size w W)
    (h6 : ∀ x ∈ F, x ≠ db ∧ x ∉ bwF bb v ∧ x ≠ bs ∧ x ≠ C ∧ x ≠ C + 1) (h7 : ∀ x ∈ bwF bb v, x ≠ db ∧ x ≠ bs ∧ x ≠ C ∧ x ≠ C + 1) (h8 : db ≠ bs ∧ db < C ∧ bs < C)
    {w2 w3 : World} {F' : List Nat} {v' : Value} (g1 : RealAt w2 B b 50 (lineR (linesV firstV (ls.take k)) s.data.toList).2 F') (g2 : SVst F F' W w2) (g3 : BW w3 bb v' (linesR firstV (ls.take k) ++ (ansB (linesV firstV (ls.take k)) s ++ ⟨#[10]⟩).data.toList)) (g4 : Kept (bwF bb v) w2 w3) (g5 : v'.ownBlock = v.ownBlock ∨ ∃ g, v'.ownBlock = some g ∧ w2.heap.size ≤ g) :
    (w3.heap[C]? = W.heap[C]? ∧ w3.heap[C + 1]? = W.heap[C + 1]?) ∧ w3.heap[bs]? = W.heap[bs]? ∧ RunI w K B C b db bb bs ls (k + 1) w3 := by
  obtain ⟨e1, e2⟩ := runI_step hx
  have z2 := g2.1.size
  have z3 := g4.size
  have same : ∀ j, j < W.heap.size → j ∉ F → j ∉ bwF bb v → w3.heap[j]? = W.heap[j]? := fun j hj a1 a2 => (g4.block j (by omega) a2).trans (g2.1.block j hj a1)
  have nF : ∀ j, (∀ x ∈ F, x ≠ j) → j ∉ F := fun j hj hm => hj j hm rfl
  have nB : ∀ j, (∀ x ∈ bwF bb v, x ≠ j) → j ∉ bwF bb v := fun j hj hm => hj j hm rfl
  have bwl := h1.lt
  have nF' : ∀ x ∈ F', x ∈ F ∨ W.heap.size ≤ x := g2.2
  have hbv : ∀ x ∈ bwF bb v', x ∈ bwF bb v ∨ w2.heap.size ≤ x := fun x hx' => by
    rcases mem_bwF.1 hx' with rfl | hx'
    · exact .inl (mem_bwF.2 (.inl rfl))
    · rcases g5 with e | ⟨g, e, hg⟩
      · exact .inl (mem_bwF.2 (.inr (by rw [← e]; exact hx')))
      · rw [hx'] at e; have := Option.some.inj e; exact .inr (by omega)
  have hB2 : Below w.heap.size W w2 := g2.1.below h5.size (fun x hx' => by have := (h2.lt x hx').1; omega)
  have hB3 : Below w.heap.size w2 w3 := g4.below (by have := h5.size; omega) (fun x hx' => by have := (bwl x hx').1; omega)
  refine ⟨⟨same C (by omega) (nF _ fun x hx' => (h6 x hx').2.2.2.1) (nB _ fun x hx' => (h7 x hx').2.2.1), same (C + 1) hz (nF _ fun x hx' => (h6 x hx').2.2.2.2) (nB _ fun x hx' => (h7 x hx').2.2.2)⟩, same bs (by omega) (nF _ fun x hx' => (h6 x hx').2.2.1) (nB _ fun x hx' => (h7 x hx').2.1),
    v', F', ?_, ?_, (same db (by omega) (nF _ fun x hx' => (h6 x hx').1) (nB _ fun x hx' => (h7 x hx').1)).trans h3, (h4.below hB2 hK).below hB3 hK, h5.trans (hB2.trans hB3), fun x hx' => ?_, fun x hx' => ?_, h8, by omega⟩
  · rw [e1]
    have : (ansB (linesV firstV (ls.take k)) s ++ ⟨#[10]⟩).data.toList = (lineR (linesV firstV (ls.take k)) s.data.toList).1 ++ [10] := by simp [ansB]
    rw [← this]
    exact g3
  · rw [e2]
    refine g1.kept g4 (fun x hx' hm => ?_)
    rcases nF' x hx' with hf | hf
    · exact (h6 x hf).2.1 hm
    · have := (bwl x hm).2; omega
  · have hnb : x ∉ bwF bb v' := fun hm => by
      have hxl := (g1.lt x hx').2
      rcases hbv x hm with hm | hm
      · rcases nF' x hx' with hf | hf
        · exact (h6 x hf).2.1 hm
        · have := (bwl x hm).2; omega
      · omega
    rcases nF' x hx' with hf | hf
    · obtain ⟨a1, _, a3, a4, a5⟩ := h6 x hf
      exact ⟨a1, hnb, a3, a4, a5⟩
    · exact ⟨by omega, hnb, by omega, by omega, by omega⟩
  · rcases hbv x hx' with hm | hm
    · exact h7 x hm
    · exact ⟨by omega, by omega, by omega, by omega⟩
/-- the answers to a text, as bytes -/
def runB (t : ByteArray) : ByteArray := ⟨(runL t.data.toList).toArray⟩
set_option maxRecDepth 100000 in
set_option maxHeartbeats 4000000 in
theorem runLong (t : ByteArray) (hsz : t.size ≤ 9223372036854775807) (h : 3000 < t.size) (w : World) : Calls Tryz.prog 6 #[.string t] w fun e w' => e = .returned (.string (runB t)) ∧ Below w.heap.size w w' := by
  have e : runB t = ⟨#[116, 111, 111, 32, 108, 111, 110, 103, 10]⟩ := by
    unfold runB runL
    rw [if_pos (by simpa using h)]
    rfl
  rw [e]
  clear e
  refine (callsIn_wide (n := 3)).1 ?_
  refine callsIn_of_wp_marks Tryz.func6 rfl trivial ?_ rfl
  simp only [Tryz.ntmps6, List.size_toArray, List.length_cons, List.length_nil, Nat.reduceAdd, Nat.reduceSub, Array.replicate_succ, Array.replicate_zero, List.push_toArray, List.append_toArray, List.nil_append, List.cons_append]
  gi_wp2
  exact ⟨.string ⟨#[116, 111, 111, 32, 108, 111, 110, 103, 10]⟩, by simp [results, Tryz.f6, go_sem], rfl, Below.refl _ _⟩
set_option maxRecDepth 100000 in
set_option maxHeartbeats 8000000 in
theorem runShort (t : ByteArray) (h : t.size ≤ 3000) (K : Nat) (w : World) (hE : EnvR K w) (hK : K ≤ w.heap.size) : Calls Tryz.prog 6 #[.string t] w fun e w' => e = .returned (.string (runB t)) ∧ Below w.heap.size w w' := by
  have SV := hide (svNew (seed := 7) (li := 50) (by decide) (by decide) w)
  have LN := hide (fun W => linesNew t W)
  have HE := hide hE
  have HK := hide hK
  clear hE hK
  refine (callsIn_wide (n := 3)).1 ?_
  refine callsIn_of_wp_marks Tryz.func6 rfl trivial ?_ rfl
  simp only [Tryz.ntmps6, List.size_toArray, List.length_cons, List.length_nil, Nat.reduceAdd, Nat.reduceSub, Array.replicate_succ, Array.replicate_zero, List.push_toArray, List.append_toArray, List.nil_append, List.cons_append]
  gi_wp2_with fail
  refine ⟨trivial, ?_⟩
  have hn1 : 1 ≤ 3 := by omega
  gi_at_call 11
  refine (callsIn_wide.2 SV.out).mono ?_
  rintro e w1 ⟨b, q, bi, bb0, bv, rfl, hsv, hb1⟩
  have HSV := hide hsv
  have HB1 := hide hb1
  clear hsv hb1
  gi_wp2_with fail
  refine ⟨trivial, ?_⟩
  gi_at_call 12
  refine (callsIn_wide.2 (LN.out _)).mono ?_
  rintro e w2 ⟨rfl, rfl⟩
  gi_wp2
  obtain ⟨W0, hW0⟩ : ∃ W0, W0 = (((w1.alloc (.cells #[.pointer (some ⟨b, 0, none⟩)] 37)).alloc (.cells #[.pointer none, .slice none 0 0] 41)).alloc (.cells #[.string t] 9)) := ⟨_, rfl⟩
  obtain ⟨bs, hbs⟩ : ∃ x, x = w1.heap.size + 1 + 1 := ⟨_, rfl⟩
  obtain ⟨bb, hbb⟩ : ∃ x, x = w1.heap.size + 1 := ⟨_, rfl⟩
  obtain ⟨db, hdb⟩ : ∃ x, x = w1.heap.size := ⟨_, rfl⟩
  rw [← hbs, ← hbb, ← hdb, ← hW0]
  have hz0 : W0.heap.size = bs + 1 := by rw [hW0]; simp; omega
  have hbs0 : ObjAt W0 bs 9 [.string t] := by rw [hW0]; exact objNew (by simp; omega)
  have hdb0 : ObjAt W0 db 37 [.pointer (some ⟨b, 0, none⟩)] := by rw [hW0]; exact ((objNew hdb).alloc _).alloc _
  have hbw0 : BW W0 bb (.slice none 0 0) [] := by
    have h1 := BW.new (w1.alloc (.cells #[.pointer (some ⟨b, 0, none⟩)] 37))
    have e1 : (w1.alloc (.cells #[.pointer (some ⟨b, 0, none⟩)] 37)).heap.size = bb := by simp; omega
    rw [e1] at h1
    rw [hW0]
    exact h1.kept ((Kept.refl [] _).alloc _) (by simp)
  have hk0 : Below w1.heap.size w1 W0 := by rw [hW0]; exact (((Below.refl _ _).alloc (Nat.le_refl _) _).alloc (by simp) _).alloc (by simp; omega) _
  have hb0 : Below w.heap.size w W0 := HB1.out.trans (hk0.mono HB1.out.size)
  have hF0 : RealAt w1 w.heap.size b 50 firstV (svF b q bi bb0 bv (.slice none 0 0) (.slice none 0 0) (.slice none 0 0)) := ⟨q, bi, bb0, bv, _, _, _, HSV.out, rfl⟩
  have hI0 : RunI w K w.heap.size W0.heap.size b db bb bs (textL t.data.toList) 0 W0 := by
    refine ⟨_, _, hbw0, hF0.kept (Kept.of_below hk0 []) (by simp), hdb0, HE.out.below hb0 HK.out, hb0, fun x hx => ?_, fun x hx => ?_, ⟨by omega, by omega, by omega⟩, Nat.le_refl _⟩
    · have h1 := (hF0.lt x hx).2
      refine ⟨by omega, fun hm => ?_, by omega, by omega, by omega⟩
      have := (hbw0.lt x hm).1
      omega
    · have h1 := hbw0.lt x hx
      rcases mem_bwF.1 hx with rfl | hm
      · omega
      · simp [Value.ownBlock] at hm
  have hll : (linesL t.data.toList).length ≤ 3000 := Nat.le_trans (linesL_le _) (by simpa using h)
  have hw1z := HB1.out.size
  have HST := hide (runI_stands (w := w) (K := K) (B := w.heap.size) (C := W0.heap.size) (b := b) (db := db) (bb := bb) (bs := bs) HK.out (by omega) (by omega) (textL t.data.toList))
  have hbbw : w.heap.size ≤ bb := by omega
  have hCw : w.heap.size ≤ W0.heap.size := hb0.size
  have HC := hide hCw
  have HLL := hide hll
  have HI0 := hide hI0
  have HBS := hide hbs0
  clear hbs hbb hdb hW0 hz0 hbs0 hdb0 hbw0 hk0 hb0 hF0 hI0 hll hw1z HSV SV LN hCw
  generalize hCg : W0.heap.size = C at HST HI0 HC
  refine wp_lines2 (n := 3) (by omega) (by unfold maxLen; omega) rfl HBS.out (RunI w K w.heap.size C b db bb bs (textL t.data.toList)) (by rw [hCg]; exact HST.out) HI0.out
    (fun x => { tmps := #[.string t, undef, .string ⟨#[]⟩, .pointer (some ⟨b, 0, none⟩), .nilIface, .pointer (some ⟨db, 0, none⟩), .pointer (some ⟨bb, 0, none⟩), .string x, .string t, .int .i64 (t.size : Int), .bool (decide ((3000 : Int) < (t.size : Int))), .tuple #[.pointer (some ⟨b, 0, none⟩), .nilIface], .tuple #[.pointer (some ⟨b, 0, none⟩), .nilIface], .pointer (some ⟨b, 0, none⟩), .nilIface, .nilIface, .bool false, .pointer (some ⟨b, 0, none⟩), .agg #[.pointer (some ⟨b, 0, none⟩)], .string t,
        .func (.func 32) #[] #[.pointer (some ⟨bs, 0, none⟩)], .string x, undef, undef, undef, undef, undef, undef, undef], defers := [] }) ?assign ?body ?done
  case assign =>
    intro l x W Kc hKc
    gi_wp2
    exact hKc
  case body =>
    rintro l k x W hl hC1 hx ⟨v, F, h1, h2, h3, h4, h5, h6, h7, h8, h9⟩
    rw [hCg] at hC1 ⊢
    have hxk : (textL t.data.toList)[k]? = some (trimB x).data.toList := by
      unfold textL trimB
      rw [List.getElem?_map, hx]
      rfl
    have hkl : k < 3000 := by
      have := (List.getElem?_eq_some_iff.1 hx).1
      have := HLL.out
      omega
    have hxs : x.size ≤ 3000 := by
      have h10 := linesL_mem (List.mem_of_getElem? hx)
      simp at h10
      omega
    have hys : (trimB x).size ≤ 3000 := by
      have h11 : (trimB x).size = (trimL x.data.toList).length := by unfold trimB; rw [← List.size_toArray]; rfl
      have h12 : (trimL x.data.toList).length ≤ x.data.toList.length := by unfold trimL; split <;> simp
      have h13 : x.data.toList.length = x.size := by simp
      omega
    have hRI := RI_lines ((textL t.data.toList).take k) firstV 0 RI.first (by rw [List.length_take]; omega)
    have hRIk : RI (linesV firstV ((textL t.data.toList).take k)) k := by
      have e : 0 + ((textL t.data.toList).take k).length = k := by
        have := (List.getElem?_eq_some_iff.1 hxk).1
        rw [List.length_take]; omega
      rw [e] at hRI
      exact hRI
    have hle := linesR_le ((textL t.data.toList).take k) firstV 0 RI.first (by rw [List.length_take]; omega)
    rw [List.length_take] at hle
    have hal : (ansB (linesV firstV ((textL t.data.toList).take k)) (trimB x)).size ≤ 60 := by
      have h14 := line_le hRIk (by omega) (trimB x).data.toList
      have h15 : (ansB (linesV firstV ((textL t.data.toList).take k)) (trimB x)).size = (lineR (linesV firstV ((textL t.data.toList).take k)) (trimB x).data.toList).1.length := by unfold ansB; rw [← List.size_toArray]; rfl
      omega
    have e10 : (⟨#[10]⟩ : ByteArray).size = 1 := rfl
    have TR := hide (fun W' => (Tryz.strings_TrimSuffix x ⟨#[10]⟩ W' (by omega)).mono (R' := fun e w' => e = .returned (.string (trimB x)) ∧ W' = w') (fun e w' ⟨q1, q2⟩ => ⟨by rw [q1]; unfold trimB; rw [← trim_lib], q2.symm⟩))
    have AN := hide (fun W' (hb : Below W.heap.size W W') => rdAnswer (B := w.heap.size) (b := b) hRIk (by omega) (s := trimB x) (by omega) K W' F (h2.kept (Kept.of_below hb []) (by simp)) (h4.below hb (by have := h5.size; have := HK.out; omega)) HK.out (by have := h5.size; have := hb.size; omega))
    have WR := hide (fun w2 (hk : Kept F W w2) => bwWrite (ansB (linesV firstV ((textL t.data.toList).take k)) (trimB x) ++ ⟨#[10]⟩) (by rw [ByteArray.size_append]; omega) w2 (h1.kept hk (fun y hy hm => (h6 y hm).2.1 hy)))
    have NX := hide (fun (w2 w3 : World) (F' : List Nat) (v' : Value) (g1 : RealAt w2 w.heap.size b 50 (lineR (linesV firstV ((textL t.data.toList).take k)) (trimB x).data.toList).2 F') (g2 : SVst F F' W w2) (g3 : BW w3 bb v' (linesR firstV ((textL t.data.toList).take k) ++ (ansB (linesV firstV ((textL t.data.toList).take k)) (trimB x) ++ ⟨#[10]⟩).data.toList)) (g4 : Kept (bwF bb v) w2 w3) (g5 : v'.ownBlock = v.ownBlock ∨ ∃ g, v'.ownBlock = some g ∧ w2.heap.size ≤ g) => runI_next HK.out (Nat.le_refl _) hbbw hC1 hxk h1 h2 h3 h4 h5 h6 h7 h8 g1 g2 g3 g4 g5)
    have d0 := h3.cell (i := 0) rfl
    have dF : ∀ w2, Kept F W w2 → w2.cell? ⟨db, 0, none⟩ = some (.pointer (some ⟨b, 0, none⟩)) := fun w2 hk => (hk.obj h3 (fun hm => (h6 _ hm).1 rfl)).cell (i := 0) rfl
    have DF := hide dF
    unfold AnsPost at AN
    generalize ansB (linesV firstV ((textL t.data.toList).take k)) (trimB x) = an at hal WR NX AN
    generalize linesR firstV ((textL t.data.toList).take k) = ll at WR NX hle h1
    clear e10 hx hxk hkl hxs hys hRI hRIk hle h1 h2 h3 h4 h5 h6 h7 h8 h9 dF
    unfold deskV at AN
    have hn2 : 1 ≤ 3 - 1 - 1 := by omega
    gi_wp2_with fail
    gi_region_with (first
      | (refine ⟨trivial, ?_⟩; gi_at_call 15; refine (CallsIn.inRound l (callsIn_wide.2 (TR.out _))).mono ?_; rintro e w2 ⟨rfl, rfl⟩)
      | (refine ⟨trivial, ?_⟩; gi_at_call 14; refine (CallsIn.inRound l (callsIn_wide.2 (AN.out _ (by go_grown)))).mono ?_; rintro e w2 ⟨rfl, F', hR2, hs2⟩)
      | (refine ⟨trivial, ?_⟩; gi_at_call 13; refine (CallsIn.inRound l (callsIn_wide.2 (WR.out _ (by first | exact hs2.1 | exact ((Kept.refl F _).drew).trans hs2.1)))).mono ?_; rintro e w3 ⟨rfl, v', hb3, hk3, hv3⟩))
    all_goals
      have hs3 : SVst F F' W w2 := (by first | exact hs2 | exact hs2.pre (Below.refl _ _).drew)
      exact NX.out _ _ _ _ hR2 hs3 hb3 hk3 hv3
  case done =>
    rintro D W hD ⟨v, F, h1, h2, h3, h4, h5, h6, h7, h8, h9⟩ hK
    have hlen : (textL t.data.toList).take (linesL t.data.toList).length = textL t.data.toList := List.take_of_length_le (by unfold textL; rw [List.length_map]; exact Nat.le_refl _)
    rw [hlen] at h1
    have hrb : (⟨(linesR firstV (textL t.data.toList)).toArray⟩ : ByteArray) = runB t := by
      unfold runB runL
      rw [if_neg (by simpa using h)]
    have hDb : D ≠ bb := fun e => by
      obtain ⟨p, _, ho⟩ := h1.hd
      have ho' : W.heap[bb]? = some (.cells #[p, v] 41 (0, 0)) := ho
      rw [← e, hK] at ho'
      cases ho'
    have hbl := (h1.lt bb (mem_bwF.2 (.inl rfl))).2
    have BI := hide (Tryz.Builder_String_any_k bb bb _ W h1.isB (by omega))
    rw [hrb] at BI
    have HKD := hide hK
    have HW5 := hide h5
    have hDw : w.heap.size ≤ D := by have := HC.out; omega
    clear h1 h2 h3 h4 h5 h6 h7 h8 h9 hK hlen hrb hbl
    gi_wp2_with fail
    refine ⟨trivial, ?_⟩
    gi_at_call 16
    refine (callsIn_wide.2 BI.out).mono ?_
    rintro e w3 ⟨rfl, _, hB3, hO3⟩
    have hK3 : w3.heap[D]? = some (.deferred (some [])) := hO3 D _ HKD.out (fun e => hDb (Option.some.inj e)) (fun c fz e => by cases e)
    have hb3 : Below w.heap.size w w3 := HW5.out.trans (hB3.mono hbbw)
    have hfin : Below w.heap.size w (w3.putObj D (.deferred none)) := hb3.grown (grownBy_putObj' w3 D (.deferred none)) hb3.size (fun k e => by cases e; exact hDw)
    have HF := hide hfin
    have HK3 := hide hK3
    clear hB3 hO3 hK3 hb3 hfin
    gi_wp2
    refine ⟨by simp, .inl ⟨_, _, rfl, run_takeDeferred HK3.out, ?_⟩⟩
    exact ⟨.string (runB t), by simp [results, Tryz.f6, go_sem], rfl, HF.out⟩
theorem runRun (t : ByteArray) (hsz : t.size ≤ 9223372036854775807) (K : Nat) (w : World) (hE : EnvR K w) (hK : K ≤ w.heap.size) : Calls Tryz.prog 6 #[.string t] w fun e w' => e = .returned (.string (runB t)) ∧ Below w.heap.size w w' := by
  by_cases h : t.size ≤ 3000
  · exact runShort t h K w hE hK
  · exact runLong t hsz (by omega) w
end Go.Proofs.YtlnghfmcofmkjaaGreatDoor

namespace Go.Proofs.YtlnghfmcofmkjaaGreatDoor
open Go.RowKit

def factB : ByteArray := ⟨#[104, 101, 108, 108, 111, 32, 51, 32, 53, 10, 119, 97, 105, 116, 105, 110, 103, 10, 112, 117, 108, 108, 10, 112, 117, 108, 108, 10, 102, 108, 121, 10, 116, 117, 114, 110, 10, 99, 114, 97, 115, 104, 10, 104, 101, 108, 108, 111, 32, 51, 10, 119, 97, 105, 116, 105, 110, 103, 10]⟩
theorem fact_runB : runB factB = ⟨#[119, 101, 108, 99, 111, 109, 101, 32, 50, 49, 56, 52, 53, 10, 49, 10, 50, 49, 56, 52, 53, 10, 69, 114, 114, 78, 111, 110, 101, 10, 98, 97, 100, 10, 111, 107, 10, 111, 107, 10, 98, 97, 100, 10, 48, 10]⟩ := by
  have h : factB.data.toList = factT := rfl
  unfold runB
  rw [h, fact_run]
  rfl
theorem long_runB {t : ByteArray} (h : 3000 < t.size) : runB t = ⟨#[116, 111, 111, 32, 108, 111, 110, 103, 10]⟩ := by
  unfold runB runL
  rw [if_pos (by simpa using h)]
  rfl
theorem begin_runB {t : ByteArray} (ht : t.size ≤ 3000) {k : Nat} (hk : k = 0 ∨ t.size ≤ k ∨ (1 ≤ k ∧ t.data.toList[k - 1]? = some 10)) : (runB (t.extract 0 k)).size ≤ (runB t).size ∧ (((runB t).extract 0 (runB (t.extract 0 k)).size).toList == (runB (t.extract 0 k)).toList) = true := by
  have hl : t.data.toList.length = t.size := by simp
  obtain ⟨r, hr⟩ := runL_begin (t := t.data.toList) (by omega) (k := k) (by rw [hl]; exact hk)
  have e1 : (t.extract 0 k).data.toList = t.data.toList.take k := by simp
  have e2 : (runB (t.extract 0 k)).data.toList = runL (t.data.toList.take k) := by unfold runB; rw [e1]
  have e3 : (runB t).data.toList = (runB (t.extract 0 k)).data.toList ++ r := by rw [e2, ← hr]; rfl
  generalize runB (t.extract 0 k) = a at e2 e3
  generalize runB t = b at e3
  have ha : a.data.toList.length = a.size := by simp
  have hb : b.data.toList.length = b.size := by simp
  refine ⟨by rw [← ha, ← hb, e3]; simp, beq_iff_eq.2 ?_⟩
  rw [ByteArray.toList_eq, ByteArray.toList_eq]
  have e4 : (b.extract 0 a.size).data.toList = b.data.toList.take a.size := by simp
  rw [e4, e3, ← ha, List.take_left]
theorem runB_size (t : ByteArray) : (runB t).size ≤ 1000000 := by
  have e : (runB t).size = (runL t.data.toList).length := by unfold runB; rw [← List.size_toArray]; rfl
  rw [e]
  unfold runL
  split
  · decide
  · rename_i h
    have h1 : (textL t.data.toList).length ≤ 3000 := by
      unfold textL
      rw [List.length_map]
      exact Nat.le_trans (linesL_le _) (by omega)
    have h2 := linesR_le (textL t.data.toList) firstV 0 RI.first (by omega)
    omega
set_option maxRecDepth 100000 in
set_option maxHeartbeats 4000000 in
theorem walkRunBegins (w : World) (t : ByteArray) (hsz : t.size ≤ maxLen) (many : Int) (_wm : (Lit.int .i64 many).wf = true) (hE : EnvR w.heap.size w) :
    Calls Tryz.prog 4 #[.string t, .int .i64 many] w fun e w' => e = .returned (.bool true) ∧ Below w.heap.size w w' := by
  unfold maxLen at hsz
  have R1 := hide (fun W (hW : Below w.heap.size w W) (s : ByteArray) (hs : s.size ≤ 9223372036854775807) => runRun s hs w.heap.size W (hE.below hW (Nat.le_refl _)) hW.size)
  have RF := hide (fun W (hW : Below w.heap.size w W) => R1.out W hW factB (by decide))
  rw [fact_runB] at RF
  unfold factB at RF
  clear hE
  by_cases h3 : 3000 < t.size
  · have RT := hide (fun W (hW : Below w.heap.size w W) => R1.out W hW t (by omega))
    rw [long_runB h3] at RT
    clear R1
    go_enter Tryz.func4, Tryz.ntmps4
    go_wp2_with fail
    refine (RF.out _ (Below.refl _ _)).mono ?_
    rintro e w1 ⟨rfl, hb1⟩
    have HB1 := hide hb1
    clear hb1
    go_wp2_with fail
    refine (RT.out _ HB1.out).mono ?_
    rintro e w2 ⟨rfl, hb2⟩
    have HB2 := hide (HB1.out.trans (hb2.mono HB1.out.size))
    clear hb2
    go_wp2
    go_ret
    exact ⟨rfl, HB2.out⟩
  · have h3' : t.size ≤ 3000 := by omega
    clear h3 hsz
    go_enter Tryz.func4, Tryz.ntmps4
    go_wp2_with fail
    refine (RF.out _ (Below.refl _ _)).mono ?_
    rintro e w1 ⟨rfl, hb1⟩
    have HB1 := hide hb1
    clear hb1 RF
    go_wp2_with fail
    go_loop [7, 8] (fun kk nn => ∃ k n : Nat, kk = .int .i64 (k : Int) ∧ nn = .int .i64 (n : Int) ∧ k ≤ t.size ∧ n ≤ k ∧ Hid (k = 0 ∨ (1 ≤ k ∧ t.data.toList[k - 1]? = some 10) ∨ (n : Int) < many)) (fun kk _ => 4000 - (intOf kk).toNat)
    case atStart => exact ⟨0, 0, rfl, rfl, by omega, by omega, hide (.inl rfl)⟩
    case round =>
      obtain ⟨k, n, rfl, rfl, hk, hn, HK⟩ := hrel
      by_cases hlt : k < t.size
      · by_cases hm : (n : Int) < many
        · have hget : t.data.toList[k]? = some (t[k]'hlt) := by
            rw [Array.getElem?_toList]
            exact Array.getElem?_eq_getElem hlt
          have HG := hide hget
          clear hget
          by_cases h10 : t[k]'hlt = 10
          · have hb : (((t[k]'hlt).toNat : Int) == 10) = true := by rw [h10]; rfl
            have H10 := hide h10
            clear h10
            go_wp2
            go_round
            case rel => exact ⟨k + 1, n + 1, by go_num, by go_num, by omega, by omega, hide (.inr (.inl ⟨by omega, by rw [Nat.add_sub_cancel, HG.out, H10.out]⟩))⟩
            case measure => simp [intOf]; omega
          · have hb : (((t[k]'hlt).toNat : Int) == 10) = false := beq_eq_false_iff_ne.2 (fun e => h10 (UInt8.toNat_inj.1 (show (t[k]'hlt).toNat = 10 by omega)))
            clear h10
            go_wp2
            go_round
            case rel => exact ⟨k + 1, n, by go_num, rfl, by omega, by omega, hide (.inr (.inr hm))⟩
            case measure => simp [intOf]; omega
        · have hm' : many ≤ (n : Int) := by omega
          obtain ⟨b1, b2⟩ := begin_runB h3' (k := k) (by rcases HK.out with h | h | h; exact .inl h; exact .inr (.inr h); omega)
          have RA := hide (fun W (hW : Below w.heap.size w W) => R1.out W hW (t.extract 0 k) (by simp; omega))
          have RB := hide (fun W (hW : Below w.heap.size w W) => R1.out W hW t (by omega))
          have sa := runB_size (t.extract 0 k)
          have sb := runB_size t
          generalize runB (t.extract 0 k) = a at b1 b2 RA sa
          generalize runB t = b at b1 b2 RB sb
          clear hm R1 HK
          go_wp2_with fail
          refine (RA.out _ HB1.out).mono ?_
          rintro e w2 ⟨rfl, hb2⟩
          have HB2 := hide (HB1.out.trans (hb2.mono HB1.out.size))
          clear hb2
          go_wp2_with fail
          refine (RB.out _ HB2.out).mono ?_
          rintro e w3 ⟨rfl, hb3⟩
          have HB3 := hide (HB2.out.trans (hb3.mono HB2.out.size))
          clear hb3
          go_wp2
          go_ret
          exact ⟨rfl, HB3.out⟩
      · obtain rfl : k = t.size := by omega
        have et : t.extract 0 t.size = t := by
          apply ByteArray.ext
          simp
        obtain ⟨b1, b2⟩ := begin_runB h3' (k := t.size) (.inr (.inl (Nat.le_refl _)))
        rw [et] at b1 b2
        have RB := hide (fun W (hW : Below w.heap.size w W) => R1.out W hW t (by omega))
        have sb := runB_size t
        generalize runB t = b at b1 b2 RB sb
        clear R1 HK et
        go_wp2_with fail
        with_reducible refine (RB.out _ HB1.out).mono ?_
        rintro e w2 ⟨rfl, hb2⟩
        have HB2 := hide (HB1.out.trans (hb2.mono HB1.out.size))
        clear hb2
        go_wp2_with fail
        with_reducible refine (RB.out _ HB2.out).mono ?_
        rintro e w3 ⟨rfl, hb3⟩
        have HB3 := hide (HB2.out.trans (hb3.mono HB2.out.size))
        clear hb3
        go_wp2
        go_ret
        exact ⟨rfl, HB3.out⟩
end Go.Proofs.YtlnghfmcofmkjaaGreatDoor
