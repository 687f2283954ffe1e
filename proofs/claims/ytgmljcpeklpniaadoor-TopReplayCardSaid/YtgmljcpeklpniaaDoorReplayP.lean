/- TopReplay: a window, a vault, a log and two rows of numbers, apart from each other. -/
import Derived.Test.YtgmljcpeklpniaaDoorLogTwiceWalk
import Derived.Test.YtgmljcpeklpniaaDoorWinOnceP
import Derived.Test.YtgmljcpeklpniaaDoorOwn
import Derived.Test.YtgmljcpeklpniaaDoorSpOnce
import Derived.Test.YtgmljcpeklpniaaDoorSpCheck
import Derived.Deep.AppendLies
namespace Go.Proofs.YtgmljcpeklpniaaDoor
open Go.RowKit

theorem rp_carry {w w' : World} {base size n : Nat} {e : TypeId} {v : Value} {xs : List Value} (h : w.ownsRow base e size v n xs) (hb : ∀ g, v.ownBlock = some g → w'.heap[g]? = w.heap[g]?) : w'.ownsRow base e size v n xs := by
  refine ⟨h.1, ?_⟩
  rcases h.2 with h2 | ⟨g, cap, cur, rfl, h3, h4, h5⟩
  · exact .inl h2
  · exact .inr ⟨g, cap, cur, rfl, h3, (hb g rfl).trans h4, h5⟩
theorem rp_lt {w : World} {base size n : Nat} {e : TypeId} {v : Value} {xs : List Value} (h : w.ownsRow base e size v n xs) : ∀ g, v.ownBlock = some g → base ≤ g ∧ g < w.heap.size := by
  intro g hg
  rcases h.2 with ⟨rfl, _⟩ | ⟨g', cap, cur, rfl, h3, h4, _⟩
  · simp [Value.ownBlock] at hg
  · simp [Value.ownBlock] at hg
    subst hg
    exact ⟨h3, lt_of_block h4⟩
/-- numbers that were spent till 50 -/
def vz (ts : List Int) : List (Int × Int) := ts.map fun n => (n, 50)
theorem vz_len (ts : List Int) : (vz ts).length = ts.length := by simp [vz]
theorem vz_snoc (ts : List Int) (n : Int) : vz ts ++ [(n, 50)] = vz (ts ++ [n]) := by simp [vz]
theorem vz_drop (ts : List Int) : spDrop (vz ts) 1 = vz ts := by
  unfold spDrop vz
  rw [List.filter_eq_self]
  intro x hx
  obtain ⟨j, _, rfl⟩ := List.mem_map.1 hx
  rfl
theorem vz_any (ts : List Int) (n : Int) : (vz ts).any (fun x => x.1 == n) = decide (n ∈ ts) := by
  by_cases h : n ∈ ts
  · rw [decide_eq_true h, List.any_eq_true]
    exact ⟨(n, 50), List.mem_map.2 ⟨n, h, rfl⟩, by simp⟩
  · rw [decide_eq_false h, List.any_eq_false]
    intro x hx
    obtain ⟨j, hj, rfl⟩ := List.mem_map.1 hx
    intro e
    exact h (by have : j = n := by simpa using e
                rw [← this]; exact hj)
theorem vz_more {ts : List Int} {n : Int} (hn : 0 ≤ n ∧ n < 999983) (hl : ts.length ≤ 15) (h : n ∉ ts) : spMoreE (vz ts) n 50 1 = 0 := by
  unfold spMoreE
  rw [vz_drop, vz_any, decide_eq_false h, if_neg (by rw [inB_true.2 hn]; decide), if_neg (by decide), if_neg (by simp), vz_len, if_neg (by omega)]
theorem vz_again {ts : List Int} {n : Int} (hn : 0 ≤ n ∧ n < 999983) (h : n ∈ ts) : spMoreE (vz ts) n 50 1 = 7 := by
  unfold spMoreE
  rw [vz_drop, vz_any, decide_eq_true h, if_neg (by rw [inB_true.2 hn]; decide), if_neg (by decide), if_pos rfl]
theorem vz_right {ts : List Int} (hl : ts.length ≤ 16) (hn : ∀ x ∈ ts, 0 ≤ x ∧ x < 999983) (hd : ts.Nodup) : spE (vz ts) = 0 := by
  refine spE_zero.2 ⟨by rw [vz_len]; exact hl, fun x hx => ?_, ?_⟩
  · obtain ⟨j, hj, rfl⟩ := List.mem_map.1 hx
    rw [inB_true.2 (hn j hj)]; rfl
  · unfold vz
    rw [List.pairwise_map]
    exact hd
theorem nodup_le : ∀ (ls ts : List Int), ts.Nodup → (∀ x ∈ ts, x ∈ ls) → ts.length ≤ ls.length
  | [], ts, _, h => by
    cases ts with
    | nil => simp
    | cons a l => exact absurd (h a (by simp)) (by simp)
  | a :: ls, ts, hd, h => by
    by_cases ha : a ∈ ts
    · have h1 := nodup_le ls (ts.erase a) (hd.erase a) (fun x hx => by
        rw [hd.mem_erase_iff] at hx
        rcases List.mem_cons.1 (h x hx.2) with e | e
        · exact absurd e hx.1
        · exact e)
      rw [List.length_erase_of_mem ha] at h1
      simp; omega
    · have h1 := nodup_le ls ts hd (fun x hx => by
        rcases List.mem_cons.1 (h x hx) with e | e
        · subst e; exact absurd hx ha
        · exact e)
      simp; omega
/-- one more fits -/
theorem nodup_lt {ls ts : List Int} {n : Int} (hd : ts.Nodup) (h : ∀ x ∈ ts, x ∈ ls) (hn : n ∈ ls) (hx : n ∉ ts) : ts.length + 1 ≤ ls.length :=
  nodup_le ls (n :: ts) (List.nodup_cons.2 ⟨hx, hd⟩) (fun x hx' => by
    rcases List.mem_cons.1 hx' with rfl | e
    · exact hn
    · exact h x e)
theorem nodup_snoc {ts : List Int} {n : Int} (hd : ts.Nodup) (hx : n ∉ ts) : (ts ++ [n]).Nodup := by
  rw [List.nodup_append]
  refine ⟨hd, by simp, fun a ha b hb e => ?_⟩
  simp at hb
  subst hb
  subst e
  exact hx ha
/-- a window (at X), a vault (at V), a log (at L), two rows; all of it at B or later -/
structure RP (w : World) (B X V L : Nat) (T : Int) (b : Nat) (vl vh v1 v2 v : Value) (ls hs ts ks us : List Int) (s : ByteArray) : Prop where
  ox : ObjAt w X 49 [.int .i64 T, .int .i64 (b : Int)]
  va : VA w V v1 v2 (vz ts) (vz ks)
  lg : LG w L v (vz us) s (us.length : Int) 0 (-1) false
  rl : w.ownsRow B 3 1 vl ls.length (ls.map (Value.int .i64))
  rh : w.ownsRow B 3 1 vh hs.length (hs.map (Value.int .i64))
  hb : B ≤ X ∧ B ≤ V ∧ B ≤ L
  ne : X ≠ V ∧ X ≠ L ∧ V ≠ L
  nl : ∀ g, vl.ownBlock = some g → g ≠ X ∧ g ≠ V ∧ g ≠ L
  nh : ∀ g, vh.ownBlock = some g → g ≠ X ∧ g ≠ V ∧ g ≠ L ∧ vl.ownBlock ≠ some g
  ns : ∀ u, u = v1 ∨ u = v2 ∨ u = v → ∀ g, u.ownBlock = some g → g < w.heap.size ∧ g ≠ X ∧ g ≠ V ∧ g ≠ L ∧ vh.ownBlock ≠ some g
theorem RP.below {w w' : World} {B X V L : Nat} {T : Int} {b : Nat} {vl vh v1 v2 v : Value} {ls hs ts ks us : List Int} {s : ByteArray} (h : RP w B X V L T b vl vh v1 v2 v ls hs ts ks us s) (hb : Below w.heap.size w w') : RP w' B X V L T b vl vh v1 v2 v ls hs ts ks us s :=
  { h with
    ox := h.ox.below hb, va := h.va.below hb, lg := h.lg.below hb, rl := rp_carry h.rl (fun g hg => hb.block g (rp_lt h.rl g hg).2), rh := rp_carry h.rh (fun g hg => hb.block g (rp_lt h.rh g hg).2)
    ns := fun u hu g hg => ⟨Nat.lt_of_lt_of_le (h.ns u hu g hg).1 hb.size, (h.ns u hu g hg).2⟩ }
theorem RP.stepV {w w' : World} {B X V L : Nat} {T : Int} {b : Nat} {vl vh v1 v2 v v1' v2' : Value} {ls hs ts ks us ts' ks' : List Int} {s : ByteArray} (h : RP w B X V L T b vl vh v1 v2 v ls hs ts ks us s) (hv : VA w' V v1' v2' (vz ts') (vz ks')) (n1 : v1' = v1 ∨ vNew w w' v1') (n2 : v2' = v2 ∨ vNew w w' v2') (hk : Kept [V] w w') : RP w' B X V L T b vl vh v1' v2' v ls hs ts' ks' us s := by
  have hz := hk.size
  have aux : ∀ u' u, (u = v1 ∨ u = v2) → (u' = u ∨ vNew w w' u') → ∀ g, u'.ownBlock = some g → g < w'.heap.size ∧ g ≠ X ∧ g ≠ V ∧ g ≠ L ∧ vh.ownBlock ≠ some g := by
    intro u' u hu hu' g hg
    rcases hu' with rfl | hu' | ⟨g', e, h1, h2⟩
    · have := h.ns u' (by rcases hu with e | e; exact .inl e; exact .inr (.inl e)) g hg
      exact ⟨by omega, this.2⟩
    · rw [hu'] at hg; cases hg
    · rw [e] at hg
      obtain rfl := Option.some.inj hg
      have a1 := h.ox.lt
      have a2 := h.va.1.lt
      have a3 := h.lg.lt
      exact ⟨h2, by omega, by omega, by omega, fun e' => by have := (rp_lt h.rh _ e').2; omega⟩
  exact { h with
    ox := hk.obj h.ox (by simp; exact h.ne.1), va := hv
    lg := ⟨hk.obj h.lg.1 (by simp; exact fun e => h.ne.2.2 e.symm), h.lg.2.1.kept hk (fun x hx e => by simp at hx; subst hx; exact (h.ns v (.inr (.inr rfl)) _ e).2.2.1 rfl), h.lg.2.2⟩
    rl := rp_carry h.rl (fun g hg => hk.block g (rp_lt h.rl g hg).2 (by simp; exact (h.nl g hg).2.1))
    rh := rp_carry h.rh (fun g hg => hk.block g (rp_lt h.rh g hg).2 (by simp; exact (h.nh g hg).2.1))
    ns := fun u hu g hg => by
      rcases hu with rfl | rfl | rfl
      · exact aux _ v1 (.inl rfl) n1 g hg
      · exact aux _ v2 (.inr rfl) n2 g hg
      · have := h.ns _ (.inr (.inr rfl)) g hg
        exact ⟨by omega, this.2⟩ }
theorem RP.stepL {w w' : World} {B X V L : Nat} {T : Int} {b : Nat} {vl vh v1 v2 v v' : Value} {ls hs ts ks us us' : List Int} {s s' : ByteArray} (h : RP w B X V L T b vl vh v1 v2 v ls hs ts ks us s) (hv : LG w' L v' (vz us') s' (us'.length : Int) 0 (-1) false) (n1 : vNew w w' v') (hk : Kept [L] w w') : RP w' B X V L T b vl vh v1 v2 v' ls hs ts ks us' s' := by
  have hz := hk.size
  exact { h with
    ox := hk.obj h.ox (by simp; exact h.ne.2.1), lg := hv
    va := ⟨hk.obj h.va.1 (by simp; exact h.ne.2.2), ⟨h.va.2.1.1.kept hk (fun x hx e => by simp at hx; subst hx; exact (h.ns v1 (.inl rfl) _ e).2.2.2.1 rfl), h.va.2.1.2⟩, ⟨h.va.2.2.1.kept hk (fun x hx e => by simp at hx; subst hx; exact (h.ns v2 (.inr (.inl rfl)) _ e).2.2.2.1 rfl), h.va.2.2.2⟩⟩
    rl := rp_carry h.rl (fun g hg => hk.block g (rp_lt h.rl g hg).2 (by simp; exact (h.nl g hg).2.2))
    rh := rp_carry h.rh (fun g hg => hk.block g (rp_lt h.rh g hg).2 (by simp; exact (h.nh g hg).2.2.1))
    ns := fun u hu g hg => by
      rcases hu with rfl | rfl | rfl
      · have := h.ns _ (.inl rfl) g hg
        exact ⟨by omega, this.2⟩
      · have := h.ns _ (.inr (.inl rfl)) g hg
        exact ⟨by omega, this.2⟩
      · rcases n1 with n1 | ⟨g', e, h1, h2⟩
        · rw [n1] at hg; cases hg
        · rw [e] at hg
          obtain rfl := Option.some.inj hg
          have a1 := h.ox.lt
          have a2 := h.va.1.lt
          have a3 := h.lg.lt
          exact ⟨h2, by omega, by omega, by omega, fun e' => by have := (rp_lt h.rh _ e').2; omega⟩ }
/-- the window's box is written -/
theorem RP.setX {w : World} {B X V L : Nat} {T : Int} {b : Nat} {vl vh v1 v2 v : Value} {ls hs ts ks us : List Int} {s : ByteArray} (h : RP w B X V L T b vl vh v1 v2 v ls hs ts ks us s) (T' : Int) (b' : Nat) : RP ((w.setCell ⟨X, 0, none⟩ (.int .i64 T')).setCell ⟨X, 1, none⟩ (.int .i64 (b' : Int))) B X V L T' b' vl vh v1 v2 v ls hs ts ks us s := by
  have hk : Kept [X] w ((w.setCell ⟨X, 0, none⟩ (.int .i64 T')).setCell ⟨X, 1, none⟩ (.int .i64 (b' : Int))) := ((Kept.refl _ _).setCell (.inl (by simp)) _).setCell (.inl (by simp)) _
  exact { h with
    ox := (h.ox.set 0 _).set 1 _
    va := ⟨hk.obj h.va.1 (by simp; exact fun e => h.ne.1 e.symm), ⟨h.va.2.1.1.kept hk (fun x hx e => by simp at hx; subst hx; exact (h.ns v1 (.inl rfl) _ e).2.1 rfl), h.va.2.1.2⟩, ⟨h.va.2.2.1.kept hk (fun x hx e => by simp at hx; subst hx; exact (h.ns v2 (.inr (.inl rfl)) _ e).2.1 rfl), h.va.2.2.2⟩⟩
    lg := ⟨hk.obj h.lg.1 (by simp; exact fun e => h.ne.2.1 e.symm), h.lg.2.1.kept hk (fun x hx e => by simp at hx; subst hx; exact (h.ns v (.inr (.inr rfl)) _ e).2.1 rfl), h.lg.2.2⟩
    rl := rp_carry h.rl (fun g hg => hk.block g (rp_lt h.rl g hg).2 (by simp; exact (h.nl g hg).1))
    rh := rp_carry h.rh (fun g hg => hk.block g (rp_lt h.rh g hg).2 (by simp; exact (h.nh g hg).1))
    ns := fun u hu g hg => ⟨by simpa using (h.ns u hu g hg).1, (h.ns u hu g hg).2⟩ }
/-- a number is put behind those that came -/
theorem RP.push {w w' : World} {B X V L : Nat} {T : Int} {b m : Nat} {vl vh vh' v1 v2 v : Value} {ls hs hs' ts ks us : List Int} {s : ByteArray} (h : RP w B X V L T b vl vh v1 v2 v ls hs ts ks us s) (hg : w.grownBy w' vh.ownBlock) (hm : m = hs'.length) (ho : w'.ownsRow B 3 1 vh' m (hs'.map (Value.int .i64))) (hat : ∀ g, vh'.ownBlock = some g → vh.ownBlock = some g ∨ w.heap.size ≤ g) : RP w' B X V L T b vl vh' v1 v2 v ls hs' ts ks us s := by
  subst hm
  have hz := hg.size
  have a1 := h.ox.lt
  have a2 := h.va.1.lt
  have a3 := h.lg.lt
  have pk : ∀ (u : Value) (zs : List (Int × Int)), (u = v1 ∨ u = v2 ∨ u = v) → PSl w u zs → PSl w' u zs := by
    intro u zs hu hp
    refine ⟨hp.1, ?_⟩
    rcases hp.2 with h1 | ⟨g, off, c, rfl, h2, h3, h4⟩
    · exact .inl h1
    · have hn := (h.ns _ hu g rfl).2.2.2.2
      have hf : ∀ o, w'.cell? ⟨g, o, none⟩ = w.cell? ⟨g, o, none⟩ := fun o => hg.cell_far ⟨g, o, none⟩ h3 (fun e => hn e.symm)
      exact .inr ⟨g, off, c, rfl, h2, Nat.lt_of_lt_of_le h3 hz, fun j hj => ⟨(hf _).trans (h4 j hj).1, (hf _).trans (h4 j hj).2⟩⟩
  exact { h with
    ox := grown_obj hg h.ox (fun k hk => (h.nh k hk).1)
    va := ⟨grown_obj hg h.va.1 (fun k hk => (h.nh k hk).2.1), ⟨pk _ _ (.inl rfl) h.va.2.1.1, h.va.2.1.2⟩, ⟨pk _ _ (.inr (.inl rfl)) h.va.2.2.1, h.va.2.2.2⟩⟩
    lg := ⟨grown_obj hg h.lg.1 (fun k hk => (h.nh k hk).2.2.1), pk _ _ (.inr (.inr rfl)) h.lg.2.1, h.lg.2.2⟩
    rl := rp_carry h.rl (fun g hg' => hg.block g (rp_lt h.rl g hg').2 (fun e => (h.nh g e.symm).2.2.2 hg'))
    rh := ho
    nh := fun g hg' => by
      rcases hat g hg' with e | e
      · exact h.nh g e
      · exact ⟨by omega, by omega, by omega, fun e' => by have := (rp_lt h.rl g e').2; omega⟩
    ns := fun u hu g hg' => by
      obtain ⟨h1, h2, h3, h4, h5⟩ := h.ns u hu g hg'
      refine ⟨by omega, h2, h3, h4, fun e => ?_⟩
      rcases hat g e with e' | e'
      · exact h5 e'
      · omega }
/-- a number comes to a window: it is taken, or too old, or was taken -/
theorem rp_take {T n : Int} {b : Nat} {ts : List Int} (h : woJ T b ts) (hn : 0 ≤ n ∧ n ≤ 100000) :
    (∃ (X : Int) (Y : Nat), woJ X Y (ts ++ [n]) ∧ n ∉ ts ∧ T - 32 < n ∧ T ≤ X ∧ ∀ W, Calls Tryd.prog 22 #[.agg #[.int .i64 T, .int .i64 (b : Int)], .int .i64 n] W fun e w' => e = .returned (.tuple #[.agg #[.int .i64 X, .int .i64 (Y : Int)], .nilIface]) ∧ Below W.heap.size W w') ∨
    (∃ c : Int, c ≠ 0 ∧ (n ≤ T - 32 ∨ n ∈ ts) ∧ ∀ W, Calls Tryd.prog 22 #[.agg #[.int .i64 T, .int .i64 (b : Int)], .int .i64 n] W fun e w' => e = .returned (.tuple #[.agg #[.int .i64 0, .int .i64 0], errV c]) ∧ Below W.heap.size W w') := by
  have hw := h.1
  have hj := h.2.2
  have hm := h.2.1
  have ht : tmB n = true := tmB_true.2 hn
  by_cases hlt : T < n
  · refine .inl ⟨n, winUp T b n, wo_up h ht hlt, fun h1 => ?_, by omega, by omega, windowTake_up hw ht hlt⟩
    have := hm n h1; omega
  · by_cases h32 : T - n < 32
    · have hi := hj n hn.1 (by omega) (by omega)
      cases hb : b.testBit (T - n).toNat
      · rw [hb] at hi
        refine .inl ⟨T, b ||| (1 <<< (T - n).toNat), wo_back h ht (by omega) h32, fun h1 => by simpa using hi.1 h1, by omega, by omega, windowTake_back hw ht (by omega) h32 ?_⟩
        rw [Nat.testBit_eq_decide_div_mod_eq, decide_eq_false_iff_not] at hb
        rw [int_shr]; omega
      · rw [hb] at hi
        refine .inr ⟨7, by decide, .inr (hi.2 rfl), windowTake_bad ?_ (by decide)⟩
        rw [Nat.testBit_eq_decide_div_mod_eq, decide_eq_true_iff] at hb
        unfold winTE
        rw [if_neg (by simp [hw]), if_neg (by simp [ht]), if_neg hlt, if_neg (by omega), if_pos (by rw [int_shr]; omega)]
    · exact .inr ⟨9, by decide, .inl (by omega), windowTake_bad (by unfold winTE; rw [if_neg (by simp [hw]), if_neg (by simp [ht]), if_neg hlt, if_pos (by omega)]) (by decide)⟩
/-- what a window took, what came, what was spent -/
def rpJ (T : Int) (b : Nat) (ls hs ts : List Int) : Prop := (∃ tk, woJ T b tk ∧ ∀ x ∈ hs, x ∈ tk ∨ x ≤ T - 32) ∧ (∀ x ∈ ls, 0 ≤ x ∧ x < 1000) ∧ ls.Nodup ∧ ls.length ≤ 16 ∧ ts.Nodup ∧ (∀ x ∈ ts, x ∈ ls) ∧ ∀ x, x ∈ ts ↔ x ∈ hs
theorem rpJ.again {T n : Int} {b : Nat} {ls hs ts : List Int} (h : rpJ T b ls hs ts) (hn : n ∈ ls) (hh : n ∈ hs) : rpJ T b ls (hs ++ [n]) ts ∧ spMoreE (vz ts) n 50 1 = 7 ∧ ∃ c : Int, c ≠ 0 ∧ ∀ W, Calls Tryd.prog 22 #[.agg #[.int .i64 T, .int .i64 (b : Int)], .int .i64 n] W fun e w' => e = .returned (.tuple #[.agg #[.int .i64 0, .int .i64 0], errV c]) ∧ Below W.heap.size W w' := by
  obtain ⟨⟨tk, h1, h2⟩, h3, h4, h5, h6, h7, h8⟩ := h
  have hr := h3 n hn
  refine ⟨⟨⟨tk, h1, fun x hx => ?_⟩, h3, h4, h5, h6, h7, fun x => ?_⟩, vz_again (by omega) ((h8 n).2 hh), ?_⟩
  · rcases List.mem_append.1 hx with hx | hx
    · exact h2 x hx
    · simp at hx; subst hx; exact h2 _ hh
  · rw [h8 x, List.mem_append, List.mem_singleton]
    exact ⟨.inl, fun hx => hx.elim id (fun e => e ▸ hh)⟩
  · rcases rp_take h1 (n := n) (by omega) with ⟨_, _, _, g1, g2, _⟩ | ⟨c, g1, _, g3⟩
    · rcases h2 n hh with e | e
      · exact absurd e g1
      · omega
    · exact ⟨c, g1, g3⟩
theorem rpJ.first {T n : Int} {b : Nat} {ls hs ts : List Int} (h : rpJ T b ls hs ts) (hn : n ∈ ls) (hh : n ∉ hs) : spMoreE (vz ts) n 50 1 = 0 ∧ ts.length ≤ 15 ∧
    ((∃ (X : Int) (Y : Nat), rpJ X Y ls (hs ++ [n]) (ts ++ [n]) ∧ ∀ W, Calls Tryd.prog 22 #[.agg #[.int .i64 T, .int .i64 (b : Int)], .int .i64 n] W fun e w' => e = .returned (.tuple #[.agg #[.int .i64 X, .int .i64 (Y : Int)], .nilIface]) ∧ Below W.heap.size W w') ∨
    (rpJ T b ls (hs ++ [n]) (ts ++ [n]) ∧ ∃ c : Int, c ≠ 0 ∧ ∀ W, Calls Tryd.prog 22 #[.agg #[.int .i64 T, .int .i64 (b : Int)], .int .i64 n] W fun e w' => e = .returned (.tuple #[.agg #[.int .i64 0, .int .i64 0], errV c]) ∧ Below W.heap.size W w')) := by
  obtain ⟨⟨tk, h1, h2⟩, h3, h4, h5, h6, h7, h8⟩ := h
  have hr := h3 n hn
  have hx : n ∉ ts := fun e => hh ((h8 n).1 e)
  have hl := nodup_lt h6 h7 hn hx
  have a1 : (ts ++ [n]).Nodup := nodup_snoc h6 hx
  have a2 : ∀ x ∈ ts ++ [n], x ∈ ls := fun x hx => by
    rcases List.mem_append.1 hx with hx | hx
    · exact h7 x hx
    · simp at hx; subst hx; exact hn
  have a3 : ∀ x, x ∈ ts ++ [n] ↔ x ∈ hs ++ [n] := fun x => by rw [List.mem_append, List.mem_append, h8 x]
  refine ⟨vz_more (by omega) (by omega) hx, by omega, ?_⟩
  rcases rp_take h1 (n := n) (by omega) with ⟨X, Y, g0, g1, g2, g3, g4⟩ | ⟨c, g1, g2, g3⟩
  · refine .inl ⟨X, Y, ⟨⟨tk ++ [n], g0, fun x hx => ?_⟩, h3, h4, h5, a1, a2, a3⟩, g4⟩
    rcases List.mem_append.1 hx with hx | hx
    · rcases h2 x hx with e | e
      · exact .inl (List.mem_append.2 (.inl e))
      · exact .inr (by omega)
    · exact .inl (List.mem_append.2 (.inr hx))
  · refine .inr ⟨⟨⟨tk, h1, fun x hx => ?_⟩, h3, h4, h5, a1, a2, a3⟩, c, g1, g3⟩
    rcases List.mem_append.1 hx with hx | hx
    · exact h2 x hx
    · simp at hx
      subst hx
      exact g2.symm
end Go.Proofs.YtgmljcpeklpniaaDoor
