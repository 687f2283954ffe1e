/- run: the desk's line by contract. -/
import Derived.Test.YtlnghfmcofmkjaaGreatDoorRunAnswersProofM39
namespace Go.Proofs.YtlnghfmcofmkjaaGreatDoor
open Go.RowKit

/-- the words of a line -/
def wordsB (s : ByteArray) : List ByteArray := Lib.splitB ⟨#[32]⟩ 0 (Lib.countB s ⟨#[32]⟩) s
theorem wordsB_cut (s : ByteArray) : wordsL (wordsB s) = cutL 32 s.data.toList := splitB_cut s ⟨#[32]⟩ 32 rfl
theorem wordsB_len (s : ByteArray) : (wordsB s).length = Lib.countB s ⟨#[32]⟩ + 1 := Lib.splitB_all ⟨#[32]⟩ (by decide) 0 _ s rfl
/-- the error of a line that cannot be read -/
def badV : Value := .iface 95 (.agg #[.iface 82 (.int .i64 2)])
theorem lineSplit {s : ByteArray} (hs : s.size ≤ 100000) (w : World) (hm : ∃ m, w.cell? ⟨3, 0, none⟩ = some (.int .i64 m)) {k : Nat} (hk : (wordsB s).length = k + 1) :
    Calls Tryz.prog 48 #[.string s, .string ⟨#[32]⟩] w fun e w' => e = .returned (.slice (some ⟨w.heap.size, 0, none⟩) (k + 1) (k + 1)) ∧ ObjAt w' w.heap.size 9 ((wordsB s).map Value.string) ∧ Below w.heap.size w w' := by
  obtain ⟨m, hm⟩ := hm
  refine (Tryz.strings_Split s ⟨#[32]⟩ m w (by omega) hm (by decide)).mono ?_
  have h1 := wordsB_len s
  rintro e w' ⟨rfl, rfl⟩
  have e1 : Lib.countB s ⟨#[32]⟩ + 1 = k + 1 := by omega
  rw [e1]
  exact ⟨rfl, ObjAt.new _ _ _, (Below.refl _ _).alloc (Nat.le_refl _) _⟩
theorem mem_cut {c : UInt8} {l x : List UInt8} (h : x ∈ cutL c l) : x.length ≤ l.length := by
  induction l generalizing x with
  | nil => simp [cutL] at h; simp [h]
  | cons y l ih =>
    rw [cutL] at h
    split at h
    · rcases List.mem_cons.1 h with rfl | h
      · simp
      · have := ih h; simp; omega
    · cases hc : cutL c l with
      | nil => exact absurd hc (cutL_ne c l)
      | cons z zs =>
        rw [hc] at h ih
        rcases List.mem_cons.1 h with rfl | h
        · have := ih (List.mem_cons_self); simp; omega
        · have := ih (List.mem_cons_of_mem _ h); simp; omega
theorem wordsB_size {s x : ByteArray} (h : x ∈ wordsB s) : x.size ≤ s.size := by
  have h1 : x.data.toList ∈ cutL 32 s.data.toList := by rw [← wordsB_cut]; exact List.mem_map.2 ⟨x, h, rfl⟩
  have h2 := mem_cut h1
  simpa using h2
theorem getD_map_str (xs : List ByteArray) (j : Nat) (h : j < xs.length) : (xs.map Value.string)[j]? = some (.string (xs.getD j ByteArray.empty)) := by
  simp [List.getElem?_map, List.getElem?_eq_getElem h, List.getD]

theorem nums_own {W : World} {base : Nat} {v : Value} {us : List Nat} (h : W.ownsRow base 3 1 v us.length (us.map (fun u : Nat => Value.int .i64 (u : Int)))) : NumsAt W v us := by
  have e : us.map (fun u : Nat => Value.int .i64 (u : Int)) = (us.map (fun u : Nat => (u : Int))).map (Value.int .i64) := by rw [List.map_map]; rfl
  rw [e] at h
  obtain ⟨a, c, hv, hc, _, h0 | ⟨g, ha, hb, hg, hcs⟩⟩ := own_slice h
  · exact ⟨a, c, hv, hc, .inl (List.length_eq_zero_iff.1 h0)⟩
  · refine ⟨a, c, hv, hc, .inr ⟨g, ha, hg, fun i hi => ?_⟩⟩
    rw [hcs i hi]
    simp [List.getD, List.getElem?_map, List.getElem?_eq_getElem hi]
set_option maxRecDepth 100000 in
set_option maxHeartbeats 8000000 in
theorem rdLine_none {b : Nat} {s x : ByteArray} {xs : List ByteArray} (hs : s.size ≤ 100000) (hws : wordsB s = x :: xs) (hz : 0 < xs.length) (hn : numsL (wordsL xs) = none) (K : Nat) (W : World) (hE : EnvR K W) (hK : K ≤ W.heap.size) :
    Calls Tryz.prog 35 #[deskV b, .string s] W fun e w' => e = .returned (.tuple #[.string ⟨#[]⟩, badV]) ∧ Below W.heap.size W w' := by
  obtain ⟨bm, es, clock, g1, g2, g3, g4⟩ := hE.wa
  obtain ⟨k, hk⟩ : ∃ k, k = xs.length := ⟨_, rfl⟩
  have hlen : (wordsB s).length = k + 1 := by rw [hws, hk]; rfl
  have hxs : ∀ y ∈ x :: xs, y.size ≤ 100000 := fun y hy => Nat.le_trans (wordsB_size (by rw [hws]; exact hy)) hs
  have hkle : k ≤ 100000 := by
    have h1 := wordsB_len s
    have h2 := Lib.countB_le ⟨#[32]⟩ (by decide) s.size s (Nat.le_refl _)
    omega
  have SP := hide (fun W1 (hb : Below W.heap.size W W1) => lineSplit hs W1 (hE.below hb hK).mx hlen)
  rw [hws] at SP
  have HE := hide hE
  have LK := hide (fun W1 (hb : Below W.heap.size W W1) => g4 W1 bm ((hb.block bm (by omega)).trans g3) x (Nat.le_trans (hxs x (by simp)) (by omega)))
  obtain ⟨wb, hwb⟩ : ∃ wb, wb = wantB x := ⟨_, rfl⟩
  obtain ⟨wn, hwn⟩ : ∃ wn, wn = wantN x := ⟨_, rfl⟩
  rw [← hwb, ← hwn] at LK
  clear hwb hwn
  have NM : Hid (∀ (W1 W2 : World) (bk : Nat), Below W.heap.size W W1 → ObjAt W1 bk 9 ((x :: xs).map Value.string) → Below W1.heap.size W1 W2 → Calls Tryz.prog 49 #[.slice (some ⟨bk, 1, none⟩) k k] W2 (NumsPost xs W2)) := by
    intro W1 W2 bk hb1 ho hb2
    have ho2 := ho.below hb2
    rw [hk]
    refine runNumbers xs (by omega) (fun j hj => ?_) bk 1 _ W2 (fun j hj => ?_) ho2.lt (fun X hX => ?_)
    · have : xs.getD j ByteArray.empty ∈ xs := by simp [List.getD, List.getElem?_eq_getElem hj]
      exact Nat.le_trans (hxs _ (List.mem_cons_of_mem _ this)) (by omega)
    · refine ho2.cell ?_
      rw [Nat.add_comm, List.map_cons, List.getElem?_cons_succ]
      exact getD_map_str xs j hj
    · have hb3 : Below W.heap.size W X := hb1.trans ((hb2.trans (hX.mono hb2.size)).mono hb1.size)
      have hE3 := hE.below hb3 hK
      exact ⟨hE3.pow, hE3.ev⟩
  have hcw : ∀ W1 : World, Below W.heap.size W W1 → W1.cell? ⟨0, 0, none⟩ = some (.map (some bm)) := fun W1 hb => (hb.cell (p := ⟨0, 0, none⟩) (by have := hE.lt; show 0 < W.heap.size; omega)).trans g1
  have hcu : ∀ W1 : World, Below W.heap.size W W1 → W1.cell? ⟨1, 0, none⟩ = some (.iface 82 (.int .i64 2)) := fun W1 hb => (hE.below hb hK).un
  have CW := hide hcw
  have CU := hide hcu
  have HN := hide hn
  have hk0 : 0 < k := by omega
  clear hz hxs hws hlen hcw hcu hn hE g1 g3 g4 hk hs
  unfold deskV
  go_enter Tryz.func35, Tryz.ntmps35
  go_wp2_with fail
  refine (SP.out _ (by go_grown)).mono ?_
  rintro e w1 ⟨rfl, ho1, hb1⟩
  have hB1 : Below W.heap.size W w1 := Below.trans (by go_grown) (hb1.mono (by simp))
  have ho1 : ObjAt w1 (W.heap.size + 1) 9 ((x :: xs).map Value.string) := by simpa using ho1
  have q0 := ho1.cell (i := 0) rfl
  have cw := CW.out _ hB1
  have lk := LK.out w1.drew hB1.drew
  have HO1 := hide ho1
  have HB1 := hide hB1
  clear ho1 hb1 hB1
  go_wp2_with fail
  go_region
  have cw2 := CU.out _ HB1.out
  clear lk cw
  go_wp2_with fail
  refine (NM.out w1 _ _ HB1.out HO1.out (by go_grown)).mono ?_
  rintro e w2 (⟨us2, v, hu, rfl, hown, hb2⟩ | ⟨hu, rfl, hb2⟩)
  · exact absurd (HN.out.symm.trans hu) (by simp)
  · have hB2 : Below W.heap.size W w2 := HB1.out.trans (Below.mono (Below.trans (by go_grown) hb2) HB1.out.size)
    have HB2 := hide hB2
    have cu2 := CU.out _ hB2
    clear hu hb2 hB2
    cases wb
    all_goals
      go_wp2_with fail
      go_region
      go_wp2
      go_ret2
      exact ⟨rfl, HB2.out.drew⟩
set_option maxRecDepth 100000 in
set_option maxHeartbeats 8000000 in
theorem rdLine_unknown0 {b : Nat} {s x : ByteArray} {xs : List ByteArray} (hs : s.size ≤ 100000) (hws : wordsB s = x :: xs) (hz : xs = []) {us : List Nat} (hn : numsL (wordsL xs) = some us) (hw : wantsL x.data.toList = none) (K : Nat) (W : World) (hE : EnvR K W) (hK : K ≤ W.heap.size) :
    Calls Tryz.prog 35 #[deskV b, .string s] W fun e w' => e = .returned (.tuple #[.string ⟨#[]⟩, badV]) ∧ Below W.heap.size W w' := by
  obtain ⟨bm, es, clock, g1, g2, g3, g4⟩ := hE.wa
  obtain ⟨k, hk⟩ : ∃ k, k = xs.length := ⟨_, rfl⟩
  have hlen : (wordsB s).length = k + 1 := by rw [hws, hk]; rfl
  have hxs : ∀ y ∈ x :: xs, y.size ≤ 100000 := fun y hy => Nat.le_trans (wordsB_size (by rw [hws]; exact hy)) hs
  have hkle : k ≤ 100000 := by
    have h1 := wordsB_len s
    have h2 := Lib.countB_le ⟨#[32]⟩ (by decide) s.size s (Nat.le_refl _)
    omega
  have SP := hide (fun W1 (hb : Below W.heap.size W W1) => lineSplit hs W1 (hE.below hb hK).mx hlen)
  rw [hws] at SP
  have HE := hide hE
  have LK := hide (fun W1 (hb : Below W.heap.size W W1) => g4 W1 bm ((hb.block bm (by omega)).trans g3) x (Nat.le_trans (hxs x (by simp)) (by omega)))
  have ew : wantB x = false ∧ wantN x = 0 := by unfold wantB wantN; rw [hw]; exact ⟨rfl, rfl⟩
  rw [ew.1, ew.2] at LK
  clear ew hw
  have NM : Hid (∀ (W1 W2 : World) (bk : Nat), Below W.heap.size W W1 → ObjAt W1 bk 9 ((x :: xs).map Value.string) → Below W1.heap.size W1 W2 → Calls Tryz.prog 49 #[.slice (some ⟨bk, 0, none⟩) k k] W2 (NumsPost xs W2)) := by
    intro W1 W2 bk hb1 ho hb2
    have ho2 := ho.below hb2
    rw [hk]
    refine runNumbers xs (by omega) (fun j hj => ?_) bk 0 _ W2 (fun j hj => ?_) ho2.lt (fun X hX => ?_)
    · have : xs.getD j ByteArray.empty ∈ xs := by simp [List.getD, List.getElem?_eq_getElem hj]
      exact Nat.le_trans (hxs _ (List.mem_cons_of_mem _ this)) (by omega)
    · rw [hz] at hj; simp at hj
    · have hb3 : Below W.heap.size W X := hb1.trans ((hb2.trans (hX.mono hb2.size)).mono hb1.size)
      have hE3 := hE.below hb3 hK
      exact ⟨hE3.pow, hE3.ev⟩
  have hcw : ∀ W1 : World, Below W.heap.size W W1 → W1.cell? ⟨0, 0, none⟩ = some (.map (some bm)) := fun W1 hb => (hb.cell (p := ⟨0, 0, none⟩) (by have := hE.lt; show 0 < W.heap.size; omega)).trans g1
  have hcu : ∀ W1 : World, Below W.heap.size W W1 → W1.cell? ⟨1, 0, none⟩ = some (.iface 82 (.int .i64 2)) := fun W1 hb => (hE.below hb hK).un
  have CW := hide hcw
  have CU := hide hcu
  have HN := hide hn
  have hk0 : k = 0 := by rw [hk, hz]; rfl
  subst hk0
  clear hz hxs hws hlen hcw hcu hn hE g1 g3 g4 hk hs
  unfold deskV
  go_enter Tryz.func35, Tryz.ntmps35
  go_wp2_with fail
  refine (SP.out _ (by go_grown)).mono ?_
  rintro e w1 ⟨rfl, ho1, hb1⟩
  have hB1 : Below W.heap.size W w1 := Below.trans (by go_grown) (hb1.mono (by simp))
  have ho1 : ObjAt w1 (W.heap.size + 1) 9 ((x :: xs).map Value.string) := by simpa using ho1
  have q0 := ho1.cell (i := 0) rfl
  have cw := CW.out _ hB1
  have lk := LK.out w1.drew hB1.drew
  have HO1 := hide ho1
  have HB1 := hide hB1
  clear ho1 hb1 hB1
  go_wp2_with fail
  go_region
  have cw2 := CU.out _ HB1.out
  clear lk cw
  go_wp2_with fail
  refine (NM.out w1 _ _ HB1.out HO1.out (by go_grown)).mono ?_
  rintro e w2 (⟨us2, v, hu, rfl, hown, hb2⟩ | ⟨hu, rfl, hb2⟩)
  · obtain rfl : us2 = us := Option.some.inj (hu.symm.trans HN.out)
    have hB2 : Below W.heap.size W w2 := HB1.out.trans (Below.mono (Below.trans (by go_grown) hb2) HB1.out.size)
    have HB2 := hide hB2
    have HO := hide hown
    have HBb := hide hb2
    obtain ⟨av, cv, rfl⟩ := own_slS hown
    have cu2 := CU.out _ hB2
    clear hu hb2 hB2 hown
    go_wp2_with fail
    go_region
    go_wp2
    go_ret2
    exact ⟨rfl, HB2.out.drew⟩
  · exact absurd (HN.out.symm.trans hu) (by simp)
set_option maxRecDepth 100000 in
set_option maxHeartbeats 8000000 in
theorem rdLine_unknown {b : Nat} {s x : ByteArray} {xs : List ByteArray} (hs : s.size ≤ 100000) (hws : wordsB s = x :: xs) (hz : 0 < xs.length) {us : List Nat} (hn : numsL (wordsL xs) = some us) (hw : wantsL x.data.toList = none) (K : Nat) (W : World) (hE : EnvR K W) (hK : K ≤ W.heap.size) :
    Calls Tryz.prog 35 #[deskV b, .string s] W fun e w' => e = .returned (.tuple #[.string ⟨#[]⟩, badV]) ∧ Below W.heap.size W w' := by
  obtain ⟨bm, es, clock, g1, g2, g3, g4⟩ := hE.wa
  obtain ⟨k, hk⟩ : ∃ k, k = xs.length := ⟨_, rfl⟩
  have hlen : (wordsB s).length = k + 1 := by rw [hws, hk]; rfl
  have hxs : ∀ y ∈ x :: xs, y.size ≤ 100000 := fun y hy => Nat.le_trans (wordsB_size (by rw [hws]; exact hy)) hs
  have hkle : k ≤ 100000 := by
    have h1 := wordsB_len s
    have h2 := Lib.countB_le ⟨#[32]⟩ (by decide) s.size s (Nat.le_refl _)
    omega
  have SP := hide (fun W1 (hb : Below W.heap.size W W1) => lineSplit hs W1 (hE.below hb hK).mx hlen)
  rw [hws] at SP
  have HE := hide hE
  have LK := hide (fun W1 (hb : Below W.heap.size W W1) => g4 W1 bm ((hb.block bm (by omega)).trans g3) x (Nat.le_trans (hxs x (by simp)) (by omega)))
  have ew : wantB x = false ∧ wantN x = 0 := by unfold wantB wantN; rw [hw]; exact ⟨rfl, rfl⟩
  rw [ew.1, ew.2] at LK
  clear ew hw
  have NM : Hid (∀ (W1 W2 : World) (bk : Nat), Below W.heap.size W W1 → ObjAt W1 bk 9 ((x :: xs).map Value.string) → Below W1.heap.size W1 W2 → Calls Tryz.prog 49 #[.slice (some ⟨bk, 1, none⟩) k k] W2 (NumsPost xs W2)) := by
    intro W1 W2 bk hb1 ho hb2
    have ho2 := ho.below hb2
    rw [hk]
    refine runNumbers xs (by omega) (fun j hj => ?_) bk 1 _ W2 (fun j hj => ?_) ho2.lt (fun X hX => ?_)
    · have : xs.getD j ByteArray.empty ∈ xs := by simp [List.getD, List.getElem?_eq_getElem hj]
      exact Nat.le_trans (hxs _ (List.mem_cons_of_mem _ this)) (by omega)
    · refine ho2.cell ?_
      rw [Nat.add_comm, List.map_cons, List.getElem?_cons_succ]
      exact getD_map_str xs j hj
    · have hb3 : Below W.heap.size W X := hb1.trans ((hb2.trans (hX.mono hb2.size)).mono hb1.size)
      have hE3 := hE.below hb3 hK
      exact ⟨hE3.pow, hE3.ev⟩
  have hcw : ∀ W1 : World, Below W.heap.size W W1 → W1.cell? ⟨0, 0, none⟩ = some (.map (some bm)) := fun W1 hb => (hb.cell (p := ⟨0, 0, none⟩) (by have := hE.lt; show 0 < W.heap.size; omega)).trans g1
  have hcu : ∀ W1 : World, Below W.heap.size W W1 → W1.cell? ⟨1, 0, none⟩ = some (.iface 82 (.int .i64 2)) := fun W1 hb => (hE.below hb hK).un
  have CW := hide hcw
  have CU := hide hcu
  have HN := hide hn
  have hk0 : 0 < k := by omega
  clear hz hxs hws hlen hcw hcu hn hE g1 g3 g4 hk hs
  unfold deskV
  go_enter Tryz.func35, Tryz.ntmps35
  go_wp2_with fail
  refine (SP.out _ (by go_grown)).mono ?_
  rintro e w1 ⟨rfl, ho1, hb1⟩
  have hB1 : Below W.heap.size W w1 := Below.trans (by go_grown) (hb1.mono (by simp))
  have ho1 : ObjAt w1 (W.heap.size + 1) 9 ((x :: xs).map Value.string) := by simpa using ho1
  have q0 := ho1.cell (i := 0) rfl
  have cw := CW.out _ hB1
  have lk := LK.out w1.drew hB1.drew
  have HO1 := hide ho1
  have HB1 := hide hB1
  clear ho1 hb1 hB1
  go_wp2_with fail
  go_region
  have cw2 := CU.out _ HB1.out
  clear lk cw
  go_wp2_with fail
  refine (NM.out w1 _ _ HB1.out HO1.out (by go_grown)).mono ?_
  rintro e w2 (⟨us2, v, hu, rfl, hown, hb2⟩ | ⟨hu, rfl, hb2⟩)
  · obtain rfl : us2 = us := Option.some.inj (hu.symm.trans HN.out)
    have hB2 : Below W.heap.size W w2 := HB1.out.trans (Below.mono (Below.trans (by go_grown) hb2) HB1.out.size)
    have HB2 := hide hB2
    have HO := hide hown
    have HBb := hide hb2
    obtain ⟨av, cv, rfl⟩ := own_slS hown
    have cu2 := CU.out _ hB2
    clear hu hb2 hB2 hown
    go_wp2_with fail
    go_region
    go_wp2
    go_ret2
    exact ⟨rfl, HB2.out.drew⟩
  · exact absurd (HN.out.symm.trans hu) (by simp)
set_option maxRecDepth 100000 in
set_option maxHeartbeats 8000000 in
theorem rdLine_many0 {b : Nat} {s x : ByteArray} {xs : List ByteArray} (hs : s.size ≤ 100000) (hws : wordsB s = x :: xs) (hz : xs = []) {us : List Nat} (hn : numsL (wordsL xs) = some us) {m : Nat} (hw : wantsL x.data.toList = some m) (hm : us.length ≠ m) (K : Nat) (W : World) (hE : EnvR K W) (hK : K ≤ W.heap.size) :
    Calls Tryz.prog 35 #[deskV b, .string s] W fun e w' => e = .returned (.tuple #[.string ⟨#[]⟩, badV]) ∧ Below W.heap.size W w' := by
  obtain ⟨bm, es, clock, g1, g2, g3, g4⟩ := hE.wa
  obtain ⟨k, hk⟩ : ∃ k, k = xs.length := ⟨_, rfl⟩
  have hlen : (wordsB s).length = k + 1 := by rw [hws, hk]; rfl
  have hxs : ∀ y ∈ x :: xs, y.size ≤ 100000 := fun y hy => Nat.le_trans (wordsB_size (by rw [hws]; exact hy)) hs
  have hkle : k ≤ 100000 := by
    have h1 := wordsB_len s
    have h2 := Lib.countB_le ⟨#[32]⟩ (by decide) s.size s (Nat.le_refl _)
    omega
  have SP := hide (fun W1 (hb : Below W.heap.size W W1) => lineSplit hs W1 (hE.below hb hK).mx hlen)
  rw [hws] at SP
  have HE := hide hE
  have LK := hide (fun W1 (hb : Below W.heap.size W W1) => g4 W1 bm ((hb.block bm (by omega)).trans g3) x (Nat.le_trans (hxs x (by simp)) (by omega)))
  have ew : wantB x = true ∧ wantN x = (m : Int) := by unfold wantB wantN; rw [hw]; exact ⟨rfl, rfl⟩
  rw [ew.1, ew.2] at LK
  clear ew hw
  have NM : Hid (∀ (W1 W2 : World) (bk : Nat), Below W.heap.size W W1 → ObjAt W1 bk 9 ((x :: xs).map Value.string) → Below W1.heap.size W1 W2 → Calls Tryz.prog 49 #[.slice (some ⟨bk, 0, none⟩) k k] W2 (NumsPost xs W2)) := by
    intro W1 W2 bk hb1 ho hb2
    have ho2 := ho.below hb2
    rw [hk]
    refine runNumbers xs (by omega) (fun j hj => ?_) bk 0 _ W2 (fun j hj => ?_) ho2.lt (fun X hX => ?_)
    · have : xs.getD j ByteArray.empty ∈ xs := by simp [List.getD, List.getElem?_eq_getElem hj]
      exact Nat.le_trans (hxs _ (List.mem_cons_of_mem _ this)) (by omega)
    · rw [hz] at hj; simp at hj
    · have hb3 : Below W.heap.size W X := hb1.trans ((hb2.trans (hX.mono hb2.size)).mono hb1.size)
      have hE3 := hE.below hb3 hK
      exact ⟨hE3.pow, hE3.ev⟩
  have hcw : ∀ W1 : World, Below W.heap.size W W1 → W1.cell? ⟨0, 0, none⟩ = some (.map (some bm)) := fun W1 hb => (hb.cell (p := ⟨0, 0, none⟩) (by have := hE.lt; show 0 < W.heap.size; omega)).trans g1
  have hcu : ∀ W1 : World, Below W.heap.size W W1 → W1.cell? ⟨1, 0, none⟩ = some (.iface 82 (.int .i64 2)) := fun W1 hb => (hE.below hb hK).un
  have CW := hide hcw
  have CU := hide hcu
  have HN := hide hn
  have hk0 : k = 0 := by rw [hk, hz]; rfl
  subst hk0
  have HM := hide hm
  clear hm
  clear hz hxs hws hlen hcw hcu hn hE g1 g3 g4 hk hs
  unfold deskV
  go_enter Tryz.func35, Tryz.ntmps35
  go_wp2_with fail
  refine (SP.out _ (by go_grown)).mono ?_
  rintro e w1 ⟨rfl, ho1, hb1⟩
  have hB1 : Below W.heap.size W w1 := Below.trans (by go_grown) (hb1.mono (by simp))
  have ho1 : ObjAt w1 (W.heap.size + 1) 9 ((x :: xs).map Value.string) := by simpa using ho1
  have q0 := ho1.cell (i := 0) rfl
  have cw := CW.out _ hB1
  have lk := LK.out w1.drew hB1.drew
  have HO1 := hide ho1
  have HB1 := hide hB1
  clear ho1 hb1 hB1
  go_wp2_with fail
  go_region
  have cw2 := CU.out _ HB1.out
  clear lk cw
  go_wp2_with fail
  refine (NM.out w1 _ _ HB1.out HO1.out (by go_grown)).mono ?_
  rintro e w2 (⟨us2, v, hu, rfl, hown, hb2⟩ | ⟨hu, rfl, hb2⟩)
  · obtain rfl : us2 = us := Option.some.inj (hu.symm.trans HN.out)
    have hB2 : Below W.heap.size W w2 := HB1.out.trans (Below.mono (Below.trans (by go_grown) hb2) HB1.out.size)
    have HB2 := hide hB2
    have HO := hide hown
    have HBb := hide hb2
    obtain ⟨av, cv, rfl⟩ := own_slS hown
    have cu2 := CU.out _ hB2
    have hne : ((us2.length : Int) != (m : Int)) = true := bne_iff_ne.2 (fun e => HM.out (Int.ofNat.inj e))
    clear hu hb2 hB2 hown
    go_wp2_with fail
    go_region
    go_wp2
    go_ret2
    exact ⟨rfl, HB2.out.drew⟩
  · exact absurd (HN.out.symm.trans hu) (by simp)
set_option maxRecDepth 100000 in
set_option maxHeartbeats 8000000 in
theorem rdLine_many {b : Nat} {s x : ByteArray} {xs : List ByteArray} (hs : s.size ≤ 100000) (hws : wordsB s = x :: xs) (hz : 0 < xs.length) {us : List Nat} (hn : numsL (wordsL xs) = some us) {m : Nat} (hw : wantsL x.data.toList = some m) (hm : us.length ≠ m) (K : Nat) (W : World) (hE : EnvR K W) (hK : K ≤ W.heap.size) :
    Calls Tryz.prog 35 #[deskV b, .string s] W fun e w' => e = .returned (.tuple #[.string ⟨#[]⟩, badV]) ∧ Below W.heap.size W w' := by
  obtain ⟨bm, es, clock, g1, g2, g3, g4⟩ := hE.wa
  obtain ⟨k, hk⟩ : ∃ k, k = xs.length := ⟨_, rfl⟩
  have hlen : (wordsB s).length = k + 1 := by rw [hws, hk]; rfl
  have hxs : ∀ y ∈ x :: xs, y.size ≤ 100000 := fun y hy => Nat.le_trans (wordsB_size (by rw [hws]; exact hy)) hs
  have hkle : k ≤ 100000 := by
    have h1 := wordsB_len s
    have h2 := Lib.countB_le ⟨#[32]⟩ (by decide) s.size s (Nat.le_refl _)
    omega
  have SP := hide (fun W1 (hb : Below W.heap.size W W1) => lineSplit hs W1 (hE.below hb hK).mx hlen)
  rw [hws] at SP
  have HE := hide hE
  have LK := hide (fun W1 (hb : Below W.heap.size W W1) => g4 W1 bm ((hb.block bm (by omega)).trans g3) x (Nat.le_trans (hxs x (by simp)) (by omega)))
  have ew : wantB x = true ∧ wantN x = (m : Int) := by unfold wantB wantN; rw [hw]; exact ⟨rfl, rfl⟩
  rw [ew.1, ew.2] at LK
  clear ew hw
  have NM : Hid (∀ (W1 W2 : World) (bk : Nat), Below W.heap.size W W1 → ObjAt W1 bk 9 ((x :: xs).map Value.string) → Below W1.heap.size W1 W2 → Calls Tryz.prog 49 #[.slice (some ⟨bk, 1, none⟩) k k] W2 (NumsPost xs W2)) := by
    intro W1 W2 bk hb1 ho hb2
    have ho2 := ho.below hb2
    rw [hk]
    refine runNumbers xs (by omega) (fun j hj => ?_) bk 1 _ W2 (fun j hj => ?_) ho2.lt (fun X hX => ?_)
    · have : xs.getD j ByteArray.empty ∈ xs := by simp [List.getD, List.getElem?_eq_getElem hj]
      exact Nat.le_trans (hxs _ (List.mem_cons_of_mem _ this)) (by omega)
    · refine ho2.cell ?_
      rw [Nat.add_comm, List.map_cons, List.getElem?_cons_succ]
      exact getD_map_str xs j hj
    · have hb3 : Below W.heap.size W X := hb1.trans ((hb2.trans (hX.mono hb2.size)).mono hb1.size)
      have hE3 := hE.below hb3 hK
      exact ⟨hE3.pow, hE3.ev⟩
  have hcw : ∀ W1 : World, Below W.heap.size W W1 → W1.cell? ⟨0, 0, none⟩ = some (.map (some bm)) := fun W1 hb => (hb.cell (p := ⟨0, 0, none⟩) (by have := hE.lt; show 0 < W.heap.size; omega)).trans g1
  have hcu : ∀ W1 : World, Below W.heap.size W W1 → W1.cell? ⟨1, 0, none⟩ = some (.iface 82 (.int .i64 2)) := fun W1 hb => (hE.below hb hK).un
  have CW := hide hcw
  have CU := hide hcu
  have HN := hide hn
  have hk0 : 0 < k := by omega
  have HM := hide hm
  clear hm
  clear hz hxs hws hlen hcw hcu hn hE g1 g3 g4 hk hs
  unfold deskV
  go_enter Tryz.func35, Tryz.ntmps35
  go_wp2_with fail
  refine (SP.out _ (by go_grown)).mono ?_
  rintro e w1 ⟨rfl, ho1, hb1⟩
  have hB1 : Below W.heap.size W w1 := Below.trans (by go_grown) (hb1.mono (by simp))
  have ho1 : ObjAt w1 (W.heap.size + 1) 9 ((x :: xs).map Value.string) := by simpa using ho1
  have q0 := ho1.cell (i := 0) rfl
  have cw := CW.out _ hB1
  have lk := LK.out w1.drew hB1.drew
  have HO1 := hide ho1
  have HB1 := hide hB1
  clear ho1 hb1 hB1
  go_wp2_with fail
  go_region
  have cw2 := CU.out _ HB1.out
  clear lk cw
  go_wp2_with fail
  refine (NM.out w1 _ _ HB1.out HO1.out (by go_grown)).mono ?_
  rintro e w2 (⟨us2, v, hu, rfl, hown, hb2⟩ | ⟨hu, rfl, hb2⟩)
  · obtain rfl : us2 = us := Option.some.inj (hu.symm.trans HN.out)
    have hB2 : Below W.heap.size W w2 := HB1.out.trans (Below.mono (Below.trans (by go_grown) hb2) HB1.out.size)
    have HB2 := hide hB2
    have HO := hide hown
    have HBb := hide hb2
    obtain ⟨av, cv, rfl⟩ := own_slS hown
    have cu2 := CU.out _ hB2
    have hne : ((us2.length : Int) != (m : Int)) = true := bne_iff_ne.2 (fun e => HM.out (Int.ofNat.inj e))
    clear hu hb2 hB2 hown
    go_wp2_with fail
    go_region
    go_wp2
    go_ret2
    exact ⟨rfl, HB2.out.drew⟩
  · exact absurd (HN.out.symm.trans hu) (by simp)
set_option maxRecDepth 100000 in
set_option maxHeartbeats 8000000 in
theorem rdLine_ok0 {B b : Nat} {A C : Vals} {ans : List UInt8} {s x : ByteArray} {xs : List ByteArray} (hs : s.size ≤ 100000) (hws : wordsB s = x :: xs) (hz : xs = []) {us : List Nat} (hn : numsL (wordsL xs) = some us) (hw : wantsL x.data.toList = some us.length) (K : Nat) (W : World) (F : List Nat) (hR : RealAt W B b 50 A F) (hE : EnvR K W) (hKB : K ≤ B) (hB : B ≤ W.heap.size)
    (hdo : ∀ (v : Value) (W1 : World), RealAt W1 B b 50 A F → EnvR K W1 → B ≤ W1.heap.size → NumsAt W1 v us → (∀ g, v.ownBlock = some g → g ∉ F) → Calls Tryz.prog 50 #[deskV b, .string x, v] W1 (DeskPost B b C F W1 ans)) :
    Calls Tryz.prog 35 #[deskV b, .string s] W (DeskPost B b C F W ans) := by
  have hK : K ≤ W.heap.size := by omega
  obtain ⟨bm, es, clock, g1, g2, g3, g4⟩ := hE.wa
  obtain ⟨k, hk⟩ : ∃ k, k = xs.length := ⟨_, rfl⟩
  have hlen : (wordsB s).length = k + 1 := by rw [hws, hk]; rfl
  have hxs : ∀ y ∈ x :: xs, y.size ≤ 100000 := fun y hy => Nat.le_trans (wordsB_size (by rw [hws]; exact hy)) hs
  have hkle : k ≤ 100000 := by
    have h1 := wordsB_len s
    have h2 := Lib.countB_le ⟨#[32]⟩ (by decide) s.size s (Nat.le_refl _)
    omega
  have SP := hide (fun W1 (hb : Below W.heap.size W W1) => lineSplit hs W1 (hE.below hb hK).mx hlen)
  rw [hws] at SP
  have HE := hide hE
  have LK := hide (fun W1 (hb : Below W.heap.size W W1) => g4 W1 bm ((hb.block bm (by omega)).trans g3) x (Nat.le_trans (hxs x (by simp)) (by omega)))
  have ew : wantB x = true ∧ wantN x = (us.length : Int) := by unfold wantB wantN; rw [hw]; exact ⟨rfl, rfl⟩
  rw [ew.1, ew.2] at LK
  clear ew hw
  have NM : Hid (∀ (W1 W2 : World) (bk : Nat), Below W.heap.size W W1 → ObjAt W1 bk 9 ((x :: xs).map Value.string) → Below W1.heap.size W1 W2 → Calls Tryz.prog 49 #[.slice (some ⟨bk, 0, none⟩) k k] W2 (NumsPost xs W2)) := by
    intro W1 W2 bk hb1 ho hb2
    have ho2 := ho.below hb2
    rw [hk]
    refine runNumbers xs (by omega) (fun j hj => ?_) bk 0 _ W2 (fun j hj => ?_) ho2.lt (fun X hX => ?_)
    · have : xs.getD j ByteArray.empty ∈ xs := by simp [List.getD, List.getElem?_eq_getElem hj]
      exact Nat.le_trans (hxs _ (List.mem_cons_of_mem _ this)) (by omega)
    · rw [hz] at hj; simp at hj
    · have hb3 : Below W.heap.size W X := hb1.trans ((hb2.trans (hX.mono hb2.size)).mono hb1.size)
      have hE3 := hE.below hb3 hK
      exact ⟨hE3.pow, hE3.ev⟩
  have hcw : ∀ W1 : World, Below W.heap.size W W1 → W1.cell? ⟨0, 0, none⟩ = some (.map (some bm)) := fun W1 hb => (hb.cell (p := ⟨0, 0, none⟩) (by have := hE.lt; show 0 < W.heap.size; omega)).trans g1
  have hcu : ∀ W1 : World, Below W.heap.size W W1 → W1.cell? ⟨1, 0, none⟩ = some (.iface 82 (.int .i64 2)) := fun W1 hb => (hE.below hb hK).un
  have CW := hide hcw
  have CU := hide hcu
  have HN := hide hn
  have hk0 : k = 0 := by rw [hk, hz]; rfl
  subst hk0
  have hFl : ∀ y ∈ F, y < W.heap.size := fun y hy => (hR.lt y hy).2
  have HFL := hide hFl
  have HR := hide hR
  have HDO := hide hdo
  have HKB := hide hKB
  clear hFl hdo hR hKB
  clear hz hxs hws hlen hcw hcu hn hE g1 g3 g4 hk hs
  unfold deskV at HDO ⊢
  go_enter Tryz.func35, Tryz.ntmps35
  go_wp2_with fail
  refine (SP.out _ (by go_grown)).mono ?_
  rintro e w1 ⟨rfl, ho1, hb1⟩
  have hB1 : Below W.heap.size W w1 := Below.trans (by go_grown) (hb1.mono (by simp))
  have ho1 : ObjAt w1 (W.heap.size + 1) 9 ((x :: xs).map Value.string) := by simpa using ho1
  have HBX : Hid (∀ X, Below w1.heap.size w1 X → ObjAt X W.heap.size 37 [.pointer (some ⟨b, 0, none⟩)]) := hide (fun X hX => ((objNew rfl).below hb1).below hX)
  have q0 := ho1.cell (i := 0) rfl
  have cw := CW.out _ hB1
  have lk := LK.out w1.drew hB1.drew
  have HO1 := hide ho1
  have HB1 := hide hB1
  clear ho1 hb1 hB1
  go_wp2_with fail
  go_region
  have cw2 := CU.out _ HB1.out
  clear lk cw
  go_wp2_with fail
  refine (NM.out w1 _ _ HB1.out HO1.out (by go_grown)).mono ?_
  rintro e w2 (⟨us2, v, hu, rfl, hown, hb2⟩ | ⟨hu, rfl, hb2⟩)
  · obtain rfl : us2 = us := Option.some.inj (hu.symm.trans HN.out)
    have hB2 : Below W.heap.size W w2 := HB1.out.trans (Below.mono (Below.trans (by go_grown) hb2) HB1.out.size)
    have HB2 := hide hB2
    have HO := hide hown
    have HBb := hide hb2
    obtain ⟨av, cv, rfl⟩ := own_slS hown
    have hB2b : Below w1.heap.size w1 w2 := Below.trans (by go_grown) hb2
    have cu2 := CU.out _ hB2
    have hk2 : ∀ W1, Below w2.heap.size w2 W1 → Below W.heap.size W W1 := fun W1 hb => hB2.trans (hb.mono hB2.size)
    have hown1 := hown
    have hR2 := HR.out.kept (Kept.of_below hB2 []) (by simp)
    have G : Hid (∀ W1, Below w2.heap.size w2 W1 → Calls Tryz.prog 50 #[.agg #[.pointer (some ⟨b, 0, none⟩)], .string x, .slice av us2.length cv] W1 (DeskPost B b C F W1 ans)) := hide (fun W1 hb => HDO.out _ W1 (hR2.kept (Kept.of_below hb []) (by simp)) (HE.out.below (hk2 W1 hb) hK) (by have := (hk2 W1 hb).size; omega) (nums_own (own_below hown1 hb)) (fun g hg hm => by have h1 := own_blk hown1 g hg; have h2 := HFL.out g hm; have h3 := HB1.out.size; simp at h1; omega))
    have hX : ∀ w', Kept F w2 w' → w'.cell? ⟨W.heap.size, 0, none⟩ = some (.pointer (some ⟨b, 0, none⟩)) ∧ w'.cell? ⟨W.heap.size + 1, 0, none⟩ = some (.string x) := by
      intro w' hk
      have hbx := hk.obj (HBX.out w2 hB2b) (fun hm => by have := HFL.out _ hm; omega)
      have hbo := hk.obj (HO1.out.below (Below.trans (by go_grown) hb2)) (fun hm => by have := HFL.out _ hm; omega)
      exact ⟨hbx.cell (i := 0) rfl, hbo.cell (i := 0) rfl⟩
    have HX := hide hX
    clear hu hb2 hB2 hB2b hown hown1 hk2 hR2 hX
    go_wp2_with fail
    go_region_held3 (fun w' => w'.cell? ⟨W.heap.size, 0, none⟩ = some (.pointer (some ⟨b, 0, none⟩)) ∧ w'.cell? ⟨W.heap.size + 1, 0, none⟩ = some (.string x)) (first | exact HX.out _ (by with_reducible assumption) | exact HX.out _ (Kept.refl _ _) | exact HX.out _ (Kept.refl _ _).drew | exact HX.out _ ((Kept.refl _ _).drewN _) | go_keep)
      (first
        | (go_at_call 50; refine (G.out _ (by go_grown)).mono ?_; rintro e w3 hD; have HD := hide hD; obtain ⟨⟨s, f, rfl, hf, ha⟩, F', hR2, hs2⟩ := hD; have hk2 : Kept F w2 w3 := (by first | exact hs2.1 | exact ((Kept.refl F _).drew).trans hs2.1 | exact ((Kept.refl F _).drewN _).trans hs2.1); clear hR2 hs2 ha))
    clear hk2
    go_wp2
    go_ret2
    exact HD.out.out (HB2.out.trans (by first | exact Below.refl _ _ | exact (Below.refl _ _).drew | exact bel_drewN (Below.refl _ _) _)) (Below.refl _ _)
  · exact absurd (HN.out.symm.trans hu) (by simp)
set_option maxRecDepth 100000 in
set_option maxHeartbeats 8000000 in
theorem rdLine_ok {B b : Nat} {A C : Vals} {ans : List UInt8} {s x : ByteArray} {xs : List ByteArray} (hs : s.size ≤ 100000) (hws : wordsB s = x :: xs) (hz : 0 < xs.length) {us : List Nat} (hn : numsL (wordsL xs) = some us) (hw : wantsL x.data.toList = some us.length) (K : Nat) (W : World) (F : List Nat) (hR : RealAt W B b 50 A F) (hE : EnvR K W) (hKB : K ≤ B) (hB : B ≤ W.heap.size)
    (hdo : ∀ (v : Value) (W1 : World), RealAt W1 B b 50 A F → EnvR K W1 → B ≤ W1.heap.size → NumsAt W1 v us → (∀ g, v.ownBlock = some g → g ∉ F) → Calls Tryz.prog 50 #[deskV b, .string x, v] W1 (DeskPost B b C F W1 ans)) :
    Calls Tryz.prog 35 #[deskV b, .string s] W (DeskPost B b C F W ans) := by
  have hK : K ≤ W.heap.size := by omega
  obtain ⟨bm, es, clock, g1, g2, g3, g4⟩ := hE.wa
  obtain ⟨k, hk⟩ : ∃ k, k = xs.length := ⟨_, rfl⟩
  have hlen : (wordsB s).length = k + 1 := by rw [hws, hk]; rfl
  have hxs : ∀ y ∈ x :: xs, y.size ≤ 100000 := fun y hy => Nat.le_trans (wordsB_size (by rw [hws]; exact hy)) hs
  have hkle : k ≤ 100000 := by
    have h1 := wordsB_len s
    have h2 := Lib.countB_le ⟨#[32]⟩ (by decide) s.size s (Nat.le_refl _)
    omega
  have SP := hide (fun W1 (hb : Below W.heap.size W W1) => lineSplit hs W1 (hE.below hb hK).mx hlen)
  rw [hws] at SP
  have HE := hide hE
  have LK := hide (fun W1 (hb : Below W.heap.size W W1) => g4 W1 bm ((hb.block bm (by omega)).trans g3) x (Nat.le_trans (hxs x (by simp)) (by omega)))
  have ew : wantB x = true ∧ wantN x = (us.length : Int) := by unfold wantB wantN; rw [hw]; exact ⟨rfl, rfl⟩
  rw [ew.1, ew.2] at LK
  clear ew hw
  have NM : Hid (∀ (W1 W2 : World) (bk : Nat), Below W.heap.size W W1 → ObjAt W1 bk 9 ((x :: xs).map Value.string) → Below W1.heap.size W1 W2 → Calls Tryz.prog 49 #[.slice (some ⟨bk, 1, none⟩) k k] W2 (NumsPost xs W2)) := by
    intro W1 W2 bk hb1 ho hb2
    have ho2 := ho.below hb2
    rw [hk]
    refine runNumbers xs (by omega) (fun j hj => ?_) bk 1 _ W2 (fun j hj => ?_) ho2.lt (fun X hX => ?_)
    · have : xs.getD j ByteArray.empty ∈ xs := by simp [List.getD, List.getElem?_eq_getElem hj]
      exact Nat.le_trans (hxs _ (List.mem_cons_of_mem _ this)) (by omega)
    · refine ho2.cell ?_
      rw [Nat.add_comm, List.map_cons, List.getElem?_cons_succ]
      exact getD_map_str xs j hj
    · have hb3 : Below W.heap.size W X := hb1.trans ((hb2.trans (hX.mono hb2.size)).mono hb1.size)
      have hE3 := hE.below hb3 hK
      exact ⟨hE3.pow, hE3.ev⟩
  have hcw : ∀ W1 : World, Below W.heap.size W W1 → W1.cell? ⟨0, 0, none⟩ = some (.map (some bm)) := fun W1 hb => (hb.cell (p := ⟨0, 0, none⟩) (by have := hE.lt; show 0 < W.heap.size; omega)).trans g1
  have hcu : ∀ W1 : World, Below W.heap.size W W1 → W1.cell? ⟨1, 0, none⟩ = some (.iface 82 (.int .i64 2)) := fun W1 hb => (hE.below hb hK).un
  have CW := hide hcw
  have CU := hide hcu
  have HN := hide hn
  have hk0 : 0 < k := by omega
  have hFl : ∀ y ∈ F, y < W.heap.size := fun y hy => (hR.lt y hy).2
  have HFL := hide hFl
  have HR := hide hR
  have HDO := hide hdo
  have HKB := hide hKB
  clear hFl hdo hR hKB
  clear hz hxs hws hlen hcw hcu hn hE g1 g3 g4 hk hs
  unfold deskV at HDO ⊢
  go_enter Tryz.func35, Tryz.ntmps35
  go_wp2_with fail
  refine (SP.out _ (by go_grown)).mono ?_
  rintro e w1 ⟨rfl, ho1, hb1⟩
  have hB1 : Below W.heap.size W w1 := Below.trans (by go_grown) (hb1.mono (by simp))
  have ho1 : ObjAt w1 (W.heap.size + 1) 9 ((x :: xs).map Value.string) := by simpa using ho1
  have HBX : Hid (∀ X, Below w1.heap.size w1 X → ObjAt X W.heap.size 37 [.pointer (some ⟨b, 0, none⟩)]) := hide (fun X hX => ((objNew rfl).below hb1).below hX)
  have q0 := ho1.cell (i := 0) rfl
  have cw := CW.out _ hB1
  have lk := LK.out w1.drew hB1.drew
  have HO1 := hide ho1
  have HB1 := hide hB1
  clear ho1 hb1 hB1
  go_wp2_with fail
  go_region
  have cw2 := CU.out _ HB1.out
  clear lk cw
  go_wp2_with fail
  refine (NM.out w1 _ _ HB1.out HO1.out (by go_grown)).mono ?_
  rintro e w2 (⟨us2, v, hu, rfl, hown, hb2⟩ | ⟨hu, rfl, hb2⟩)
  · obtain rfl : us2 = us := Option.some.inj (hu.symm.trans HN.out)
    have hB2 : Below W.heap.size W w2 := HB1.out.trans (Below.mono (Below.trans (by go_grown) hb2) HB1.out.size)
    have HB2 := hide hB2
    have HO := hide hown
    have HBb := hide hb2
    obtain ⟨av, cv, rfl⟩ := own_slS hown
    have hB2b : Below w1.heap.size w1 w2 := Below.trans (by go_grown) hb2
    have cu2 := CU.out _ hB2
    have hk2 : ∀ W1, Below w2.heap.size w2 W1 → Below W.heap.size W W1 := fun W1 hb => hB2.trans (hb.mono hB2.size)
    have hown1 := hown
    have hR2 := HR.out.kept (Kept.of_below hB2 []) (by simp)
    have G : Hid (∀ W1, Below w2.heap.size w2 W1 → Calls Tryz.prog 50 #[.agg #[.pointer (some ⟨b, 0, none⟩)], .string x, .slice av us2.length cv] W1 (DeskPost B b C F W1 ans)) := hide (fun W1 hb => HDO.out _ W1 (hR2.kept (Kept.of_below hb []) (by simp)) (HE.out.below (hk2 W1 hb) hK) (by have := (hk2 W1 hb).size; omega) (nums_own (own_below hown1 hb)) (fun g hg hm => by have h1 := own_blk hown1 g hg; have h2 := HFL.out g hm; have h3 := HB1.out.size; simp at h1; omega))
    have hX : ∀ w', Kept F w2 w' → w'.cell? ⟨W.heap.size, 0, none⟩ = some (.pointer (some ⟨b, 0, none⟩)) ∧ w'.cell? ⟨W.heap.size + 1, 0, none⟩ = some (.string x) := by
      intro w' hk
      have hbx := hk.obj (HBX.out w2 hB2b) (fun hm => by have := HFL.out _ hm; omega)
      have hbo := hk.obj (HO1.out.below (Below.trans (by go_grown) hb2)) (fun hm => by have := HFL.out _ hm; omega)
      exact ⟨hbx.cell (i := 0) rfl, hbo.cell (i := 0) rfl⟩
    have HX := hide hX
    clear hu hb2 hB2 hB2b hown hown1 hk2 hR2 hX
    go_wp2_with fail
    go_region_held3 (fun w' => w'.cell? ⟨W.heap.size, 0, none⟩ = some (.pointer (some ⟨b, 0, none⟩)) ∧ w'.cell? ⟨W.heap.size + 1, 0, none⟩ = some (.string x)) (first | exact HX.out _ (by with_reducible assumption) | exact HX.out _ (Kept.refl _ _) | exact HX.out _ (Kept.refl _ _).drew | exact HX.out _ ((Kept.refl _ _).drewN _) | go_keep)
      (first
        | (go_at_call 50; refine (G.out _ (by go_grown)).mono ?_; rintro e w3 hD; have HD := hide hD; obtain ⟨⟨s, f, rfl, hf, ha⟩, F', hR2, hs2⟩ := hD; have hk2 : Kept F w2 w3 := (by first | exact hs2.1 | exact ((Kept.refl F _).drew).trans hs2.1 | exact ((Kept.refl F _).drewN _).trans hs2.1); clear hR2 hs2 ha))
    clear hk2
    go_wp2
    go_ret2
    exact HD.out.out (HB2.out.trans (by first | exact Below.refl _ _ | exact (Below.refl _ _).drew | exact bel_drewN (Below.refl _ _) _)) (Below.refl _ _)
  · exact absurd (HN.out.symm.trans hu) (by simp)
end Go.Proofs.YtlnghfmcofmkjaaGreatDoor
