/- run: what the package variables hold while a session goes; rows of one and of four by contract. foldref2: number, name, Row by contract. -/
import Derived.Test.YtlnghfmcofmkjaaGreatDoorRunAnswersProofM4
import Derived.Test.YtlnghfmcofmkjaaGreatDoorRunAnswersProofM36
import Derived.Test.YtlnghfmcofmkjaaGreatDoorRunAnswersProofM37
namespace Go.Proofs.YtlnghfmcofmkjaaGreatDoor
open Go.RowKit

theorem Tryz.powG : Tryz.prog.globalNamed "internal/strconv.uint64pow10" = some 8 := by kernel_rfl
theorem PowT.of_block {w w' : World} (h : PowT w) (hb : w'.heap[8]? = w.heap[8]?) : PowT w' := by
  unfold PowT Lib.TabIs World.var? at h ⊢
  rw [Tryz.powG] at h ⊢
  simp only [Option.bind_some] at h ⊢
  rw [hb]
  exact h
/-- is a word known; how many numbers it wants -/
def wantB (s : ByteArray) : Bool := (wantsL s.data.toList).isSome
def wantN (s : ByteArray) : Int := (((wantsL s.data.toList).getD 0 : Nat) : Int)
/-- a map's entries answer as wantsL does -/
def WantsM (es : Array MapEntry) (clock : Nat) : Prop := ∀ (W : World) (b : Nat), W.heap[b]? = some (.map es clock) → ∀ s : ByteArray, s.size ≤ 1000000 → (Instr.lookup 120 (.map (some b)) (.string s) true).run Tryz.prog W = .ok (.tuple #[.int .i64 (wantN s), .bool (wantB s)]) W
/-- what the variables hold; their blocks lie below K -/
structure EnvR (K : Nat) (w : World) : Prop where
  pow : PowT w
  ev : ErrVars w
  mx : ∃ m, w.cell? ⟨3, 0, none⟩ = some (.int .i64 m)
  et : ErrT w
  un : w.cell? ⟨1, 0, none⟩ = some (.iface 82 (.int .i64 2))
  wa : ∃ bm es clock, w.cell? ⟨0, 0, none⟩ = some (.map (some bm)) ∧ bm < K ∧ w.heap[bm]? = some (.map es clock) ∧ WantsM es clock
  lt : 8 + 1 ≤ K
theorem EnvR.below {K B : Nat} {w w' : World} (h : EnvR K w) (hb : Below B w w') (hB : K ≤ B) : EnvR K w' := by
  obtain ⟨⟨t1, p1, e1⟩, ⟨t2, p2, e2⟩⟩ := h.ev
  obtain ⟨m, hm⟩ := h.mx
  obtain ⟨bm, es, clock, g1, g2, g3, g4⟩ := h.wa
  have hl := h.lt
  have hc : ∀ b o, b < 8 + 1 → w'.cell? ⟨b, o, none⟩ = w.cell? ⟨b, o, none⟩ := fun b o hbl => hb.cell (p := ⟨b, o, none⟩) (show b < B by omega)
  exact ⟨h.pow.of_block (hb.block _ (by omega)), ⟨⟨t1, p1, (hc _ _ (by decide)).trans e1⟩, ⟨t2, p2, (hc _ _ (by decide)).trans e2⟩⟩, ⟨m, (hc _ _ (by decide)).trans hm⟩, (hc _ _ (by decide)).trans h.et, (hc _ _ (by decide)).trans h.un,
    ⟨bm, es, clock, (hc _ _ (by decide)).trans g1, g2, (hb.block _ (by omega)).trans g3, g4⟩, hl⟩
theorem runRow4 {a b c d : Int} (hk : rowOk a b c d) (bk cap : Nat) (w : World) (h0 : w.cell? ⟨bk, 0, none⟩ = some (.int .i64 a)) (h1 : w.cell? ⟨bk, 1, none⟩ = some (.int .i64 b)) (h2 : w.cell? ⟨bk, 2, none⟩ = some (.int .i64 c)) (h3 : w.cell? ⟨bk, 3, none⟩ = some (.int .i64 d)) (hbk : bk < w.heap.size) (htab : ∀ W, Below w.heap.size w W → PowT W) :
    Calls Tryz.prog 68 #[.slice (some ⟨bk, 0, none⟩) 4 cap] w fun e w' => e = .returned (.string (rowB [a, b, c, d])) ∧ Below w.heap.size w w' :=
  runRow (ns := [a, b, c, d]) (by intro n hx; simp at hx; rcases hx with rfl | rfl | rfl | rfl; exact hk.1; exact hk.2.1; exact hk.2.2.1; exact hk.2.2.2) (by simp) (by simp) bk cap w
    (fun j hj => by
      match j, hj with
      | 0, _ => exact h0
      | 1, _ => exact h1
      | 2, _ => exact h2
      | 3, _ => exact h3) hbk htab
theorem runRow1 {a : Int} (hk : numOk a) (bk cap : Nat) (w : World) (h0 : w.cell? ⟨bk, 0, none⟩ = some (.int .i64 a)) (hbk : bk < w.heap.size) (htab : ∀ W, Below w.heap.size w W → PowT W) :
    Calls Tryz.prog 68 #[.slice (some ⟨bk, 0, none⟩) 1 cap] w fun e w' => e = .returned (.string (rowB [a])) ∧ Below w.heap.size w w' :=
  runRow (ns := [a]) (by intro n hx; simp at hx; rcases hx with rfl; exact hk) (by simp) (by simp) bk cap w
    (fun j hj => by
      match j, hj with
      | 0, _ => exact h0) hbk htab
theorem rowB_size (ns : List Int) (hk : ∀ n ∈ ns, numOk n) : (rowB ns).size ≤ 7 * ns.length := by
  have h1 := rowL_le ns hk
  have h2 : (rowB ns).size = (rowL ns).length := by unfold rowB; rw [← List.size_toArray]; rfl
  omega
theorem rowB_size4 {a b c d : Int} (hk : rowOk a b c d) : (rowB [a, b, c, d]).size ≤ 28 :=
  rowB_size [a, b, c, d] (by intro n hx; simp at hx; rcases hx with rfl | rfl | rfl | rfl; exact hk.1; exact hk.2.1; exact hk.2.2.1; exact hk.2.2.2)
theorem rowB_size1 {a : Int} (hk : numOk a) : (rowB [a]).size ≤ 7 := rowB_size [a] (by intro n hx; simp at hx; rcases hx with rfl; exact hk)
theorem connN_num {s n : Int} (h : connB s n = true) : numOk (connN s n) := by
  simp only [connB, decide_eq_true_eq] at h
  unfold connN xn
  have : (4096 * s + n).toNat ^^^ 21845 < 2 ^ 16 := Nat.xor_lt_two_pow (by omega) (by decide)
  exact ⟨by omega, by omega⟩
/-- the name of an error by contract -/
def nameB (e : Int) : ByteArray := ⟨(nameL e).toArray⟩
theorem errnoError {c : Int} (h0 : 0 ≤ c) (h1 : c < 10) (w : World) : Calls Tryz.prog 37 #[.int .i64 c] w fun e w' => e = .returned (.string (nameB c)) ∧ w = w' := by
  have hc : c = 0 ∨ c = 1 ∨ c = 2 ∨ c = 3 ∨ c = 4 ∨ c = 5 ∨ c = 6 ∨ c = 7 ∨ c = 8 ∨ c = 9 := by omega
  clear h0 h1
  rcases hc with rfl | rfl | rfl | rfl | rfl | rfl | rfl | rfl | rfl | rfl
  all_goals
    go_enter Tryz.func37, Tryz.ntmps37
    go_wp2
    go_ret
    exact ⟨rfl, rfl⟩
/-- what a deed of the desk gives: the text of what is answered, or the error of that name; the server behind it -/
def DeskPost (B b : Nat) (C : Vals) (F : List Nat) (W : World) (ans : List UInt8) (e : Ending) (w' : World) : Prop :=
  (∃ s f, e = .returned (.tuple #[.string s, errV f]) ∧ (0 ≤ f ∧ f < 10) ∧ ans = (if f = 0 then s.data.toList else nameL f)) ∧ ∃ F', RealAt w' B b 50 C F' ∧ SVst F F' W w'
/-- a deed of the desk from A to C, by which ans is answered -/
def DeskGo (f : FuncId) (args : Array Value) (B b : Nat) (A C : Vals) (ans : List UInt8) : Prop :=
  ∀ K W F, RealAt W B b 50 A F → EnvR K W → K ≤ B → B ≤ W.heap.size → Calls Tryz.prog f args W (DeskPost B b C F W ans)
theorem DeskPost.mk {B b : Nat} {C : Vals} {F F' : List Nat} {W w w' : World} {ans : List UInt8} {s : ByteArray} {f : Int} (hf : 0 ≤ f ∧ f < 10) (ha : ans = (if f = 0 then s.data.toList else nameL f)) (hR : RealAt w B b 50 C F') (hs : SVst F F' W w) (hb : Below w.heap.size w w') : DeskPost B b C F W ans (.returned (.tuple #[.string s, errV f])) w' :=
  ⟨⟨s, f, rfl, hf, ha⟩, F', hR.kept (Kept.of_below hb []) (by simp), hs.post hb⟩
/-- a deed of the server, between boxes that were laid ahead of it -/
theorem GoS.at {f : FuncId} {args : Array Value} {B b : Nat} {A C : Vals} {res : Value} (h : GoS f args B b A C res) {K : Nat} {W W1 : World} {F : List Nat} (hR : RealAt W B b 50 A F) (hE : EnvR K W) (hK : K ≤ B) (hB : B ≤ W.heap.size) (hb : Below W.heap.size W W1) :
    Calls Tryz.prog f args W1 fun x w' => x = .returned res ∧ (∃ F', RealAt w' B b 50 C F' ∧ SVst F F' W w') ∧ EnvR K w' ∧ W1.heap.size ≤ w'.heap.size := by
  have hR1 : RealAt W1 B b 50 A F := hR.kept (Kept.of_below hb []) (by simp)
  have hE1 : EnvR K W1 := hE.below hb (by omega)
  refine (h W1 F hR1 (by have := hb.size; omega)).mono ?_
  rintro x w' ⟨rfl, F', hn, hs⟩
  exact ⟨rfl, ⟨F', hn, hs.pre hb⟩, hE1.below (hs.1.below (B := B) (by have := hb.size; omega) (fun y hy => (hR1.lt y hy).1)) hK, hs.1.size⟩
end Go.Proofs.YtlnghfmcofmkjaaGreatDoor

namespace Go.Proofs.YtlnghfmcofmkjaaGreatDoor
open Go.RowKit

theorem valF_app (a b : List UInt8) : ∀ acc, valF acc (a ++ b) = (valF acc a).bind (fun n => valF n b) := by
  induction a with
  | nil => intro acc; rfl
  | cons x a ih =>
    intro acc
    simp only [List.cons_append, valF]
    split
    · exact ih _
    · rfl
theorem valF_take_none {l : List UInt8} {k : Nat} (h : valF 0 (l.take k) = none) : valF 0 l = none := by
  have e := valF_app (l.take k) (l.drop k) 0
  rw [List.take_append_drop, h] at e
  exact e
/-- what number makes of a word -/
def NumPost (s : ByteArray) (w : World) (e : Ending) (w' : World) : Prop :=
  ((∃ u, numL s.data.toList = some u ∧ e = .returned (.tuple #[.int .i64 (u : Int), .bool true])) ∨ (numL s.data.toList = none ∧ e = .returned (.tuple #[.int .i64 0, .bool false]))) ∧ w = w'
theorem ba_nonempty {s : ByteArray} (h : 0 < s.size) : s.toList.isEmpty = false := by
  have h1 : s.toList.length = s.size := by rw [ByteArray.toList_eq]; simp
  cases hl : s.toList with
  | nil => rw [hl] at h1; simp at h1; omega
  | cons x l => rfl
set_option maxRecDepth 100000 in
set_option maxHeartbeats 4000000 in
theorem refNumber (s : ByteArray) (hs : s.size ≤ 1000000) (w : World) : Calls Tryz.prog 18 #[.string s] w (NumPost s w) := by
  have hsz : s.data.toList.length = s.size := by simp
  by_cases h0 : s.size = 0
  · have hn : numL s.data.toList = none := by unfold numL; rw [if_pos (.inl (List.length_eq_zero_iff.1 (by omega)))]
    have e : s = ⟨#[]⟩ := by
      apply ba_of_list
      exact List.length_eq_zero_iff.1 (by omega)
    have HN := hide hn
    subst e
    clear hsz h0 hn hs
    go_enter Tryz.func18, Tryz.ntmps18
    go_wp2
    go_ret2
    exact ⟨.inr ⟨HN.out, rfl⟩, rfl⟩
  · have hp : 0 < s.size := by omega
    have hem := ba_nonempty hp
    by_cases h6 : 6 < s.size
    · have hn : numL s.data.toList = none := by unfold numL; rw [if_pos (.inr (.inl (by omega)))]
      have HN := hide hn
      clear hsz h0 hn
      go_enter Tryz.func18, Tryz.ntmps18
      go_wp2
      go_ret2
      exact ⟨.inr ⟨HN.out, rfl⟩, rfl⟩
    · have h6' : s.size ≤ 6 := by omega
      have hget : s.data.toList[0]? = some (s[0]'hp) := by
        rw [Array.getElem?_toList]
        exact Array.getElem?_eq_getElem hp
      have hhead : s.data.toList.head? = some (s[0]'hp) := by rw [← hget]; exact List.head?_eq_getElem? ..
      by_cases hz : s[0]'hp = 48 ∧ 1 < s.size
      · have hn : numL s.data.toList = none := by unfold numL; rw [if_pos (.inr (.inr ⟨by rw [hhead, hz.1], by omega⟩))]
        have HN := hide hn
        have hb : (((s[0]'hp).toNat : Int) == 48) = true := by rw [hz.1]; rfl
        have h1 := hz.2
        clear hsz h0 hn hget hhead hz h6
        go_enter Tryz.func18, Tryz.ntmps18
        go_wp2
        go_ret2
        exact ⟨.inr ⟨HN.out, rfl⟩, rfl⟩
      · have hv : numL s.data.toList = valF 0 s.data.toList := by
          unfold numL
          rw [if_neg]
          rintro (h | h | ⟨h, h'⟩)
          · rw [h] at hsz; simp at hsz; omega
          · omega
          · rw [hhead] at h
            exact hz ⟨Option.some.inj h, by omega⟩
        have HV := hide hv
        have hcase : ((((s[0]'hp).toNat : Int) == 48) = true ∧ s.size ≤ 1) ∨ (((s[0]'hp).toNat : Int) == 48) = false := by
          by_cases h48 : s[0]'hp = 48
          · refine .inl ⟨by rw [h48]; rfl, ?_⟩
            rcases Nat.lt_or_ge 1 s.size with h | h
            · exact absurd ⟨h48, h⟩ hz
            · exact h
          · exact .inr (beq_eq_false_iff_ne.2 (fun e => h48 (UInt8.toNat_inj.1 (show (s[0]'hp).toNat = 48 by omega))))
        have HSZ := hide hsz
        clear hsz h0 hv hget hhead hz h6
        rcases hcase with ⟨hb, h1⟩ | hb
        all_goals
          go_enter Tryz.func18, Tryz.ntmps18
          go_wp2
          clear hb
          go_loop [4, 5] (fun n i => ∃ k u : Nat, i = .int .i64 (k : Int) ∧ n = .int .i64 (u : Int) ∧ k ≤ s.size ∧ u < 10000000 ∧ Hid (valF 0 (s.data.toList.take k) = some u)) (fun _ i => 10 - (intOf i).toNat)
          case atStart => exact ⟨0, 0, rfl, rfl, by omega, by omega, hide rfl⟩
          case round =>
            obtain ⟨k, u, rfl, rfl, hk, hu, HU⟩ := hrel
            by_cases hlt : k < s.size
            · have hg : s.data.toList[k]? = some (s[k]'hlt) := by
                rw [Array.getElem?_toList]
                exact Array.getElem?_eq_getElem hlt
              have htk : s.data.toList.take (k + 1) = s.data.toList.take k ++ [s[k]'hlt] := by
                rw [List.take_succ_eq_append_getElem (by rw [HSZ.out]; exact hlt)]
                rw [(List.getElem?_eq_some_iff.1 hg).2]
              have hst : valF 0 (s.data.toList.take (k + 1)) = if 48 ≤ (s[k]'hlt).toNat ∧ (s[k]'hlt).toNat ≤ 57 then some (u * 10 + ((s[k]'hlt).toNat - 48)) else none := by
                rw [htk, valF_snoc, HU.out]
                rfl
              have HST := hide hst
              have hul : u < (0 + 1) * 10 ^ (s.data.toList.take k).length := valF_lt _ 0 u HU.out
              have hu5 : u < 100000 := by
                have h8 : (s.data.toList.take k).length ≤ 5 := by rw [List.length_take]; omega
                have h9 : 10 ^ (s.data.toList.take k).length ≤ 10 ^ 5 := Nat.pow_le_pow_right (by omega) h8
                omega
              clear hg htk hst hul
              by_cases hd : 48 ≤ (s[k]'hlt).toNat ∧ (s[k]'hlt).toNat ≤ 57
              · obtain ⟨d1, d2⟩ := hd
                have d1' : (48 : Int) ≤ ((s[k]'hlt).toNat : Int) := by omega
                have d2' : ((s[k]'hlt).toNat : Int) ≤ 57 := by omega
                go_wp2
                go_round
                case rel => exact ⟨k + 1, u * 10 + ((s[k]'hlt).toNat - 48), by go_num, by congr 1; omega, by omega, by omega, hide (by rw [HST.out, if_pos ⟨d1, d2⟩])⟩
                case measure => simp [intOf]; omega
              · have hno : numL s.data.toList = none := by
                  rw [HV.out]
                  exact valF_take_none (k := k + 1) (by rw [HST.out, if_neg hd])
                have HNO := hide hno
                have hcd : ((s[k]'hlt).toNat : Int) < 48 ∨ (48 ≤ ((s[k]'hlt).toNat : Int) ∧ 57 < ((s[k]'hlt).toNat : Int)) := by omega
                clear hno hd
                rcases hcd with hcd | ⟨hcd1, hcd2⟩
                all_goals
                  go_wp2
                  go_ret2
                  exact ⟨.inr ⟨HNO.out, rfl⟩, rfl⟩
            · obtain rfl : k = s.size := by omega
              have hfin : numL s.data.toList = some u := by
                rw [HV.out, ← HU.out, List.take_of_length_le (by rw [HSZ.out]; exact Nat.le_refl _)]
              have HF := hide hfin
              clear hfin
              go_wp2
              go_ret2
              exact ⟨.inl ⟨u, HF.out, rfl⟩, rfl⟩
set_option maxHeartbeats 8000000 in
theorem refName {f : Int} (h0 : 0 ≤ f) (h1 : f < 10) (w : World) : Calls Tryz.prog 21 #[.int .i64 f] w fun e w' => e = .returned (.string (nameB f)) ∧ Below w.heap.size w w' := by
  have hc : f = 0 ∨ f = 1 ∨ f = 2 ∨ f = 3 ∨ f = 4 ∨ f = 5 ∨ f = 6 ∨ f = 7 ∨ f = 8 ∨ f = 9 := by omega
  clear h0 h1
  rcases hc with rfl | rfl | rfl | rfl | rfl | rfl | rfl | rfl | rfl | rfl
  all_goals
    go_enter Tryz.func21, Tryz.ntmps21
    go_wp2
    go_ret
    exact ⟨rfl, by go_grown⟩
theorem rowL_snoc (ns : List Int) (n : Int) : rowL (ns ++ [n]) = (if ns = [] then [] else rowL ns ++ [32]) ++ digL n := by
  induction ns with
  | nil => rfl
  | cons m r ih =>
    cases r with
    | nil => simp [rowL]
    | cons k r => simp only [List.cons_append, rowL] at ih ⊢; rw [ih]; simp
set_option maxHeartbeats 4000000 in
theorem refRow {ns : List Int} (hk : ∀ n ∈ ns, numOk n) (hl : ns.length ≤ 100) (bk c : Nat) (w : World) (hc : ∀ j, j < ns.length → w.cell? ⟨bk, j, none⟩ = some (.int .i64 (ns.getD j 0))) :
    Calls Tryz.prog 22 #[.slice (some ⟨bk, 0, none⟩) ns.length c] w fun e w' => e = .returned (.string (rowB ns)) ∧ w = w' := by
  obtain ⟨m, hm⟩ : ∃ m, m = ns.length := ⟨_, rfl⟩
  rw [← hm] at hl hc ⊢
  have HM := hide hm
  have HC := hide hc
  have HK := hide hk
  have DG : Hid (∀ k, k < m → ∀ W, Calls Tryz.prog 10 #[.int .i64 (ns.getD k 0)] W fun e w' => e = .returned (.string (numB (ns.getD k 0))) ∧ W = w') := hide (fun k hk' W => by
    have hmem : ns.getD k 0 ∈ ns := by
      rw [hm] at hk'
      simp [List.getD, List.getElem?_eq_getElem hk']
    have h1 := hk _ hmem
    exact refDigits h1.1 h1.2 W)
  clear hm hc hk
  go_enter Tryz.func22, Tryz.ntmps22
  go_wp2_with fail
  go_loop [3, 4] (fun s i => ∃ k : Nat, i = .int .i64 (k : Int) ∧ k ≤ m ∧ s = .string (rowB (ns.take k))) (fun _ i => 2000 - (intOf i).toNat)
  case atStart => exact ⟨0, rfl, by omega, rfl⟩
  case round =>
    obtain ⟨k, rfl, hkm, rfl⟩ := hrel
    by_cases hlt : k < m
    · have q0 := HC.out k hlt
      have I1 := hide (DG.out k hlt)
      have hmem : ns.getD k 0 ∈ ns := by
        have := HM.out
        simp [List.getD, List.getElem?_eq_getElem (show k < ns.length by omega)]
      have sy := numB_size (HK.out _ hmem).1 (HK.out _ hmem).2
      have ly := numB_digL (HK.out _ hmem)
      have htk : ns.take (k + 1) = ns.take k ++ [ns.getD k 0] := by
        have hkl : k < ns.length := by rw [← HM.out]; exact hlt
        rw [List.take_succ_eq_append_getElem hkl]
        simp [List.getD, List.getElem?_eq_getElem hkl]
      have sr : (rowB (ns.take k)).size ≤ 700 := by
        have h1 := rowB_size (ns.take k) (fun n hn => HK.out n (List.mem_of_mem_take hn))
        have h2 : (ns.take k).length ≤ k := by rw [List.length_take]; exact Nat.min_le_left _ _
        omega
      have hs0 : ns.take k = [] ↔ k = 0 := by
        have := HM.out
        constructor
        · intro h
          have h2 := congrArg List.length h
          rw [List.length_take, Nat.min_eq_left (by omega)] at h2
          exact h2
        · rintro rfl; rfl
      have hst : rowB (ns.take (k + 1)) = (if k = 0 then numB (ns.getD k 0) else (rowB (ns.take k) ++ ⟨#[32]⟩) ++ numB (ns.getD k 0)) := by
        apply ba_of_list
        unfold rowB
        rw [htk, rowL_snoc]
        by_cases h0 : k = 0
        · rw [if_pos (hs0.2 h0), if_pos h0, ly]; rfl
        · rw [if_neg (fun h => h0 (hs0.1 h)), if_neg h0, ByteArray.data_append, Array.toList_append, ly, ByteArray.data_append, Array.toList_append]
      have HST := hide hst
      generalize numB (ns.getD k 0) = y at I1 sy HST
      generalize ns.getD k 0 = n at q0 I1
      clear hmem ly htk hs0 hst
      by_cases h0 : k = 0
      · subst h0
        have e0 : rowB (List.take 0 ns) = ⟨#[]⟩ := rfl
        have z0 : ((0 : Nat) : Int) = 0 := rfl
        rw [e0, z0]
        clear e0 sr
        go_wp2_with fail
        refine (I1.out _).mono ?_
        rintro e w1 ⟨rfl, rfl⟩
        go_wp2
        go_round
        case rel => exact ⟨1, by go_num, by omega, by rw [HST.out]; congr 1; try simp⟩
        case measure => simp [intOf] <;> omega
      · have hk1 : 0 < k := by omega
        generalize rowB (ns.take k) = rk at sr HST
        go_wp2_with fail
        refine (I1.out _).mono ?_
        rintro e w1 ⟨rfl, rfl⟩
        go_wp2
        go_round
        case rel => exact ⟨k + 1, by go_num, by omega, by rw [HST.out, if_neg h0]⟩
        case measure => simp [intOf] <;> omega
    · obtain rfl : k = m := by omega
      have e : rowB ns = rowB (ns.take k) := by rw [List.take_of_length_le (by rw [← HM.out]; exact Nat.le_refl _)]
      have HE := hide e
      clear e
      go_wp2
      go_ret
      exact ⟨congrArg (fun x => Ending.returned (.string x)) HE.out.symm, rfl⟩
theorem refRow4 {a b c d : Int} (hk : rowOk a b c d) (bk cap : Nat) (w : World) (h0 : w.cell? ⟨bk, 0, none⟩ = some (.int .i64 a)) (h1 : w.cell? ⟨bk, 1, none⟩ = some (.int .i64 b)) (h2 : w.cell? ⟨bk, 2, none⟩ = some (.int .i64 c)) (h3 : w.cell? ⟨bk, 3, none⟩ = some (.int .i64 d)) :
    Calls Tryz.prog 22 #[.slice (some ⟨bk, 0, none⟩) 4 cap] w fun e w' => e = .returned (.string (rowB [a, b, c, d])) ∧ w = w' :=
  refRow (ns := [a, b, c, d]) (by intro n hx; simp at hx; rcases hx with rfl | rfl | rfl | rfl; exact hk.1; exact hk.2.1; exact hk.2.2.1; exact hk.2.2.2) (by simp) bk cap w
    (fun j hj => by
      match j, hj with
      | 0, _ => exact h0
      | 1, _ => exact h1
      | 2, _ => exact h2
      | 3, _ => exact h3)
end Go.Proofs.YtlnghfmcofmkjaaGreatDoor
