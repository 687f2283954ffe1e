/- tag.In, tag.Of, tag.Make by contracts. ring: Epoch, Check by contracts. ring: New by contract. token: Time by contracts. ring: Of by contract. ticket: Made by contract. -/
import Derived.Test.YtlnghfmcofmkjaaGreatDoorRunAnswersProofM2
import Derived.Test.YtlnghfmcofmkjaaGreatDoorRunAnswersProofM5
import Derived.Test.YtlnghfmcofmkjaaGreatDoorRunAnswersProofM3
import Derived.Test.YtlnghfmcofmkjaaGreatDoorObj
import Derived.Handy
import Derived.Deep.QuietTactic
import Derived.BigQuiet
import Derived.Deep.RegionHeld3
namespace Go.Proofs.YtlnghfmcofmkjaaGreatDoor
open Go.RowKit

def inB (n : Int) : Bool := decide (0 ≤ n ∧ n < 999983)
theorem inB_true {n : Int} : inB n = true ↔ 0 ≤ n ∧ n < 999983 := by simp [inB]
theorem inB_false {n : Int} : inB n = false ↔ n < 0 ∨ 999983 ≤ n := by simp [inB]; omega

theorem tagIn (n : Int) (w : World) : Calls Tryz.prog 43 #[.int .i64 n] w fun e w' => e = .returned (.bool (inB n)) ∧ w = w' := by
  have hc : n < 0 ∨ (0 ≤ n ∧ 999983 ≤ n) ∨ (0 ≤ n ∧ n < 999983) := by omega
  rcases hc with h | ⟨h1, h2⟩ | ⟨h1, h2⟩
  all_goals
    go_enter Tryz.func43, Tryz.ntmps43
    go_wp2
    go_ret
    exact ⟨retB (by first | exact (decide_eq_true (by omega)).symm | exact (decide_eq_false (by omega)).symm | (simp only [inB, decide_eq_decide]; omega)), rfl⟩

theorem take_snoc_getD (zs : List Int) (k : Nat) (h : k < zs.length) : zs.take (k + 1) = zs.take k ++ [zs.getD k 0] := by
  rw [List.take_succ_eq_append_getElem h]; simp [List.getD, h]

/-- the tag of the numbers of a row -/
theorem tagOf_row (key : Int) (zs : List Int) (b off cap : Nat) (w : World) (hk : 0 ≤ key ∧ key < 999983) (hz : ∀ x ∈ zs, 0 ≤ x ∧ x < 999983) (hl : zs.length ≤ 1000)
    (hc : ∀ i, i < zs.length → w.cell? ⟨b, off + i, none⟩ = some (.int .i64 (zs.getD i 0))) :
    Calls Tryz.prog 44 #[.int .i64 key, .slice (some ⟨b, off, none⟩) zs.length cap] w fun e w' => e = .returned (.int .i64 (tagOf key zs)) ∧ w = w' := by
  obtain ⟨hk0, hk1⟩ := hk
  obtain ⟨n, hn⟩ : ∃ n, n = zs.length := ⟨_, rfl⟩
  have HC := hide hc
  clear hc
  rw [← hn] at hl ⊢
  have Hn := hide hn
  clear hn
  go_enter Tryz.func44, Tryz.ntmps44
  go_wp2
  go_loop [5, 11] (fun o i => ∃ k : Nat, i = .int .i64 k ∧ k ≤ n ∧ o = .int .i64 (tfold key (zs.take k))) (fun _ i => n - (intOf i).toNat)
  case atStart => exact ⟨0, rfl, by omega, rfl⟩
  case round =>
    obtain ⟨k, rfl, hk, rfl⟩ := hrel
    have hb := tfold_in key (zs.take k) ⟨hk0, hk1⟩
    obtain ⟨hb0, hb1⟩ := hb
    by_cases hlt : k < n
    · have hx := hz (zs.getD k 0) (by rw [List.getD, List.getElem?_eq_getElem (by rw [← Hn.out]; exact hlt)]; simp)
      have hcell := HC.out k (by rw [← Hn.out]; exact hlt)
      have hs : tfold key (zs.take (k + 1)) = (4099 * tfold key (zs.take k) + zs.getD k 0 + 1) % 999983 := by
        rw [take_snoc_getD zs k (by rw [← Hn.out]; exact hlt), tfold_snoc]; rfl
      have Hs := hide hs
      obtain ⟨x, hxe⟩ : ∃ x, x = zs.getD k 0 := ⟨_, rfl⟩
      rw [← hxe] at hx hcell
      have Hx := hide hxe
      obtain ⟨hx0, hx1⟩ := hx
      clear hs hxe hz
      go_wp2
      go_round
      case rel => exact ⟨k + 1, by go_num, by omega, by rw [Hs.out, ← Hx.out]⟩
      case measure => simp [intOf]; omega
    · obtain rfl : k = n := by omega
      have ht : tagOf key zs = (4099 * tfold key (zs.take k) + key) % 999983 := by
        rw [List.take_of_length_le (by rw [← Hn.out]; exact Nat.le_refl _)]; rfl
      have Ht := hide ht
      clear ht
      go_wp2
      go_ret
      exact ⟨retI Ht.out.symm, rfl⟩
/-- .. of no number -/
theorem tagOf_nil (key : Int) (a : Option Addr) (cap : Nat) (w : World) (hk : 0 ≤ key ∧ key < 999983) :
    Calls Tryz.prog 44 #[.int .i64 key, .slice a 0 cap] w fun e w' => e = .returned (.int .i64 (tagOf key [])) ∧ w = w' := by
  obtain ⟨hk0, hk1⟩ := hk
  go_enter Tryz.func44, Tryz.ntmps44
  go_wp2
  go_rounds 1
  go_ret
  exact ⟨rfl, rfl⟩
theorem tagOf_any (key : Int) (a : Option Addr) (len cap : Nat) (zs : List Int) (w : World) (hk : 0 ≤ key ∧ key < 999983) (hr : IntRow w a len zs) (hz : ∀ x ∈ zs, 0 ≤ x ∧ x < 999983) (hl : len ≤ 1000) :
    Calls Tryz.prog 44 #[.int .i64 key, .slice a len cap] w fun e w' => e = .returned (.int .i64 (tagOf key zs)) ∧ w = w' := by
  obtain ⟨h1, _, _, h4⟩ := hr
  rcases h4 with h0 | ⟨b, off, rfl, _, hc⟩
  · subst h0
    obtain rfl : zs = [] := List.eq_nil_of_length_eq_zero h1
    exact tagOf_nil key a cap w hk
  · subst h1
    exact tagOf_row key zs b off cap w hk hz hl (fun i hi => by have := hc i 0 hi (by omega); simpa using this)

theorem tagOf1 {key x : Int} (hk : 0 ≤ key ∧ key < 999983) (hx : 0 ≤ x ∧ x < 999983) (W : World) (b : Nat) (h : ObjAt W b 3 [.int .i64 x]) :
    Calls Tryz.prog 44 #[.int .i64 key, .slice (some ⟨b, 0, none⟩) 1 1] W fun e w' => e = .returned (.int .i64 (tagOf key [x])) ∧ W = w' := by
  refine tagOf_row key [x] b 0 1 W hk (by simpa using hx) (by simp) ?_
  intro i hi
  match i, hi with
  | 0, _ => simpa using h.cell (i := 0) rfl
theorem tagOf3 {key x y z : Int} (hk : 0 ≤ key ∧ key < 999983) (hx : 0 ≤ x ∧ x < 999983) (hy : 0 ≤ y ∧ y < 999983) (hz : 0 ≤ z ∧ z < 999983) (W : World) (b : Nat)
    (h : ObjAt W b 3 [.int .i64 x, .int .i64 y, .int .i64 z]) :
    Calls Tryz.prog 44 #[.int .i64 key, .slice (some ⟨b, 0, none⟩) 3 3] W fun e w' => e = .returned (.int .i64 (tagOf key [x, y, z])) ∧ W = w' := by
  refine tagOf_row key [x, y, z] b 0 3 W hk (by simp; omega) (by simp) ?_
  intro i hi
  match i, hi with
  | 0, _ => simpa using h.cell (i := 0) rfl
  | 1, _ => simpa using h.cell (i := 1) rfl
  | 2, _ => simpa using h.cell (i := 2) rfl

/-- the fault of a key and numbers -/
def mkE (key : Int) (zs : List Int) : Int := if inB key = false then 1 else if 12 < zs.length then 4 else if zs.all inB then 0 else 1
/-- what Make tells -/
def mkV (key : Int) (zs : List Int) : Int := if mkE key zs = 0 then tagOf key zs else 0

/-- In at a number of the list, wherever the answer is known -/
theorem tagIn_eq {n : Int} {v : Bool} (h : inB n = v) (w : World) : Calls Tryz.prog 43 #[.int .i64 n] w fun e w' => e = .returned (.bool v) ∧ w = w' := by
  have g := tagIn n w
  rwa [h] at g

theorem introw_nil (w : World) : IntRow w none 0 [] := ⟨rfl, by simp, by simp, .inl rfl⟩
end Go.Proofs.YtlnghfmcofmkjaaGreatDoor

namespace Go.Proofs.YtlnghfmcofmkjaaGreatDoor
open Go.RowKit

def epB (n : Int) : Bool := decide (0 ≤ n ∧ n ≤ 100)
theorem epB_true {n : Int} : epB n = true ↔ 0 ≤ n ∧ n ≤ 100 := by simp [epB]
theorem epB_false {n : Int} : epB n = false ↔ n < 0 ∨ 100 < n := by simp [epB]; omega
theorem ringEpoch (n : Int) (w : World) : Calls Tryz.prog 133 #[.int .i64 n] w fun e w' => e = .returned (.bool (epB n)) ∧ w = w' := by
  have hc : n < 0 ∨ (0 ≤ n ∧ 100 < n) ∨ (0 ≤ n ∧ n ≤ 100) := by omega
  rcases hc with h | ⟨h1, h2⟩ | ⟨h1, h2⟩
  all_goals
    go_enter Tryz.func133, Tryz.ntmps133
    go_wp2
    go_ret
    exact ⟨retB (by first | exact (decide_eq_true (by omega)).symm | exact (decide_eq_false (by omega)).symm | (simp only [epB, decide_eq_decide]; omega)), rfl⟩
theorem ringEpoch_eq {n : Int} {v : Bool} (h : epB n = v) (w : World) : Calls Tryz.prog 133 #[.int .i64 n] w fun e w' => e = .returned (.bool v) ∧ w = w' := by
  have g := ringEpoch n w
  rwa [h] at g

/-- the fault of a ring -/
def ringE (e k o : Int) : Int := if epB e && inB k && inB o then (if e = 0 ∧ o ≠ 0 then 3 else 0) else 1

theorem ringCheck (e k o : Int) (w : World) : Calls Tryz.prog 110 #[.agg #[.int .i64 e, .int .i64 k, .int .i64 o]] w fun r w' => r = .returned (errV (ringE e k o)) ∧ Below w.heap.size w w' := by
  cases he : epB e
  · rw [show ringE e k o = 1 by simp [ringE, he]]
    have T := hide (fun W => ringEpoch_eq he W)
    clear he
    go_enter Tryz.func110, Tryz.ntmps110
    go_wp2_with fail
    refine (T.out _).mono ?_
    rintro e w101 ⟨rfl, rfl⟩
    go_wp2
    go_ret
    exact ⟨rfl, by go_grown⟩
  · have T := hide (fun W => ringEpoch_eq he W)
    cases hk : inB k
    · rw [show ringE e k o = 1 by simp [ringE, hk]]
      have K := hide (fun W => tagIn_eq hk W)
      clear he hk
      go_enter Tryz.func110, Tryz.ntmps110
      go_wp2_with fail
      refine (T.out _).mono ?_
      rintro e w101 ⟨rfl, rfl⟩
      go_wp2_with fail
      refine (K.out _).mono ?_
      rintro e w102 ⟨rfl, rfl⟩
      go_wp2
      go_ret
      exact ⟨rfl, by go_grown⟩
    · have K := hide (fun W => tagIn_eq hk W)
      cases ho : inB o
      · rw [show ringE e k o = 1 by simp [ringE, ho]]
        have O := hide (fun W => tagIn_eq ho W)
        clear he hk ho
        go_enter Tryz.func110, Tryz.ntmps110
        go_wp2_with fail
        refine (T.out _).mono ?_
        rintro e w101 ⟨rfl, rfl⟩
        go_wp2_with fail
        refine (K.out _).mono ?_
        rintro e w102 ⟨rfl, rfl⟩
        go_wp2_with fail
        refine (O.out _).mono ?_
        rintro e w103 ⟨rfl, rfl⟩
        go_wp2
        go_ret
        exact ⟨rfl, by go_grown⟩
      · have O := hide (fun W => tagIn_eq ho W)
        by_cases h0 : e = 0
        · by_cases h1 : o = 0
          · rw [show ringE e k o = 0 by unfold ringE; rw [he, hk, ho]; simp [h0, h1]]
            clear he hk ho
            subst h0; subst h1
            go_enter Tryz.func110, Tryz.ntmps110
            go_wp2_with fail
            refine (T.out _).mono ?_
            rintro e w101 ⟨rfl, rfl⟩
            go_wp2_with fail
            refine (K.out _).mono ?_
            rintro e w102 ⟨rfl, rfl⟩
            go_wp2_with fail
            refine (O.out _).mono ?_
            rintro e w103 ⟨rfl, rfl⟩
            go_wp2
            go_ret
            exact ⟨rfl, by go_grown⟩
          · rw [show ringE e k o = 3 by unfold ringE; rw [he, hk, ho]; simp [h0, h1]]
            have t1 : (o != 0) = true := bne_iff_ne.2 h1
            clear he hk ho h1
            subst h0
            go_enter Tryz.func110, Tryz.ntmps110
            go_wp2_with fail
            refine (T.out _).mono ?_
            rintro e w101 ⟨rfl, rfl⟩
            go_wp2_with fail
            refine (K.out _).mono ?_
            rintro e w102 ⟨rfl, rfl⟩
            go_wp2_with fail
            refine (O.out _).mono ?_
            rintro e w103 ⟨rfl, rfl⟩
            go_wp2
            go_ret
            exact ⟨rfl, by go_grown⟩
        · rw [show ringE e k o = 0 by unfold ringE; rw [he, hk, ho]; simp [h0]]
          have t1 : (e == 0) = false := beq_eq_false_iff_ne.2 h0
          clear he hk ho h0
          go_enter Tryz.func110, Tryz.ntmps110
          go_wp2_with fail
          refine (T.out _).mono ?_
          rintro e w101 ⟨rfl, rfl⟩
          go_wp2_with fail
          refine (K.out _).mono ?_
          rintro e w102 ⟨rfl, rfl⟩
          go_wp2_with fail
          refine (O.out _).mono ?_
          rintro e w103 ⟨rfl, rfl⟩
          go_wp2
          go_ret
          exact ⟨rfl, by go_grown⟩
theorem ringCheck_eq {e k o c : Int} (h : ringE e k o = c) (w : World) : Calls Tryz.prog 110 #[.agg #[.int .i64 e, .int .i64 k, .int .i64 o]] w fun r w' => r = .returned (errV c) ∧ Below w.heap.size w w' := by
  have g := ringCheck e k o w
  rwa [h] at g
theorem ringE_cases (e k o : Int) : ringE e k o = 0 ∨ ringE e k o = 1 ∨ ringE e k o = 3 := by
  unfold ringE; split
  · split <;> simp
  · simp
theorem ringE_ok {e k o : Int} (h : ringE e k o = 0) : (0 ≤ e ∧ e ≤ 100) ∧ (0 ≤ k ∧ k < 999983) ∧ (0 ≤ o ∧ o < 999983) ∧ (e = 0 → o = 0) := by
  unfold ringE at h
  split at h
  · rename_i hh
    simp only [Bool.and_eq_true] at hh
    obtain ⟨⟨h1, h2⟩, h3⟩ := hh
    refine ⟨epB_true.1 h1, inB_true.1 h2, inB_true.1 h3, fun he => ?_⟩
    split at h
    · omega
    · rename_i hn
      exact Classical.byContradiction fun ho => hn ⟨he, ho⟩
  · omega
end Go.Proofs.YtlnghfmcofmkjaaGreatDoor

namespace Go.Proofs.YtlnghfmcofmkjaaGreatDoor
open Go.RowKit

theorem tagOf1c {key x : Int} (hk : 0 ≤ key ∧ key < 999983) (hx : 0 ≤ x ∧ x < 999983) (W : World) (b : Nat) (h : W.cell? ⟨b, 0, none⟩ = some (.int .i64 x)) :
    Calls Tryz.prog 44 #[.int .i64 key, .slice (some ⟨b, 0, none⟩) 1 1] W fun e w' => e = .returned (.int .i64 (tagOf key [x])) ∧ W = w' := by
  refine tagOf_row key [x] b 0 1 W hk (by simpa using hx) (by simp) ?_
  intro i hi
  match i, hi with
  | 0, _ => simpa using h
/-- the ring of a seed; the fault -/
def ringK (seed : Int) : Int := if inB seed then tagOf seed [0] else 0
def ringNE (seed : Int) : Int := if inB seed then 0 else 1
theorem ringNew_bad {seed : Int} (h : inB seed = false) (w : World) :
    Calls Tryz.prog 27 #[.int .i64 seed] w fun r w' => r = .returned (.tuple #[.agg #[.int .i64 0, .int .i64 0, .int .i64 0], .iface 82 (.int .i64 1)]) ∧ Below w.heap.size w w' := by
  have T := hide (fun W => tagIn_eq h W)
  clear h
  go_enter Tryz.func27, Tryz.ntmps27
  go_wp2_with fail
  refine (T.out _).mono ?_
  rintro e w101 ⟨rfl, rfl⟩
  go_wp2
  exact bodyPost_ret (v := .tuple #[.agg #[.int .i64 0, .int .i64 0, .int .i64 0], .iface 82 (.int .i64 1)]) (by simp [results, Tryz.results27, go_sem, *]) rfl ⟨rfl, by go_grown⟩
theorem ringNew_ok {seed : Int} (h : inB seed = true) (w : World) :
    Calls Tryz.prog 27 #[.int .i64 seed] w fun r w' => r = .returned (.tuple #[.agg #[.int .i64 0, .int .i64 (tagOf seed [0]), .int .i64 0], .nilIface]) ∧ Below w.heap.size w w' := by
  have T := hide (fun W => tagIn_eq h W)
  have O := hide (tagOf1c (inB_true.1 h) (show (0 : Int) ≤ 0 ∧ (0 : Int) < 999983 by omega))
  clear h
  go_enter Tryz.func27, Tryz.ntmps27
  go_wp2_with fail
  refine (T.out _).mono ?_
  rintro e w101 ⟨rfl, rfl⟩
  go_wp2_with fail
  refine (O.out _ _ (by simp)).mono ?_
  rintro e w102 ⟨rfl, rfl⟩
  go_wp2
  exact bodyPost_ret (v := .tuple #[.agg #[.int .i64 0, .int .i64 (tagOf seed [0]), .int .i64 0], .nilIface]) (by simp [results, Tryz.results27, go_sem, *]) rfl ⟨rfl, by go_grown⟩
theorem ringNew_key {seed : Int} (_h : inB seed = true) : ringE 0 (tagOf seed [0]) 0 = 0 := by
  have h1 := tagOf_in seed [0]
  unfold ringE
  rw [show epB 0 = true by decide, inB_true.2 h1, show inB 0 = true by decide]
  simp
end Go.Proofs.YtlnghfmcofmkjaaGreatDoor

namespace Go.Proofs.YtlnghfmcofmkjaaGreatDoor
open Go.RowKit

def tmB (n : Int) : Bool := decide (0 ≤ n ∧ n ≤ 100000)
theorem tmB_true {n : Int} : tmB n = true ↔ 0 ≤ n ∧ n ≤ 100000 := by simp [tmB]
theorem tmB_false {n : Int} : tmB n = false ↔ n < 0 ∨ 100000 < n := by simp [tmB]; omega
theorem tokenTime (n : Int) (w : World) : Calls Tryz.prog 28 #[.int .i64 n] w fun e w' => e = .returned (.bool (tmB n)) ∧ w = w' := by
  have hc : n < 0 ∨ (0 ≤ n ∧ 100000 < n) ∨ (0 ≤ n ∧ n ≤ 100000) := by omega
  rcases hc with h | ⟨h1, h2⟩ | ⟨h1, h2⟩
  all_goals
    go_enter Tryz.func28, Tryz.ntmps28
    go_wp2
    go_ret
    exact ⟨retB (by first | exact (decide_eq_true (by omega)).symm | exact (decide_eq_false (by omega)).symm | (simp only [tmB, decide_eq_decide]; omega)), rfl⟩
theorem tokenTime_eq {n : Int} {v : Bool} (h : tmB n = v) (w : World) : Calls Tryz.prog 28 #[.int .i64 n] w fun e w' => e = .returned (.bool v) ∧ w = w' := by
  have g := tokenTime n w
  rwa [h] at g
end Go.Proofs.YtlnghfmcofmkjaaGreatDoor

namespace Go.Proofs.YtlnghfmcofmkjaaGreatDoor
open Go.RowKit

/-- the key of an epoch; the fault -/
def ringOfN (e k o ep : Int) : Int × Int := if e - ep = 0 then (k, 0) else if e - ep = 1 then (o, 0) else if e < ep then (0, 5) else (0, 9)
theorem ringOf (e k o ep : Int) (w : World) (h0 : 0 ≤ e) (h1 : e ≤ 100) (h2 : 0 ≤ ep) (h3 : ep ≤ 100) :
    Calls Tryz.prog 144 #[.agg #[.int .i64 e, .int .i64 k, .int .i64 o], .int .i64 ep] w fun r w' => r = .returned (.tuple #[.int .i64 (ringOfN e k o ep).1, errV (ringOfN e k o ep).2]) ∧ Below w.heap.size w w' := by
  by_cases g0 : e - ep = 0
  · rw [show ringOfN e k o ep = (k, 0) by simp [ringOfN, g0]]
    have t : (e - ep == 0) = true := by simp [g0]
    clear g0
    go_enter Tryz.func144, Tryz.ntmps144
    go_wp2
    go_ret2
    exact ⟨rfl, by go_grown⟩
  · by_cases g1 : e - ep = 1
    · rw [show ringOfN e k o ep = (o, 0) by simp [ringOfN, g1]]
      have t0 : (e - ep == 0) = false := beq_eq_false_iff_ne.2 g0
      have t : (e - ep == 1) = true := by simp [g1]
      clear g0 g1
      go_enter Tryz.func144, Tryz.ntmps144
      go_wp2
      go_ret2
      exact ⟨rfl, by go_grown⟩
    · have t0 : (e - ep == 0) = false := beq_eq_false_iff_ne.2 g0
      have t1 : (e - ep == 1) = false := beq_eq_false_iff_ne.2 g1
      by_cases g2 : e < ep
      · rw [show ringOfN e k o ep = (0, 5) by simp [ringOfN, g0, g1, g2]]
        clear g0 g1
        go_enter Tryz.func144, Tryz.ntmps144
        go_wp2
        go_ret2
        exact ⟨rfl, by go_grown⟩
      · rw [show ringOfN e k o ep = (0, 9) by simp [ringOfN, g0, g1, g2]]
        clear g0 g1
        go_enter Tryz.func144, Tryz.ntmps144
        go_wp2
        go_ret2
        exact ⟨rfl, by go_grown⟩
theorem ringOf_eq {e k o ep v c : Int} (h : ringOfN e k o ep = (v, c)) (h0 : 0 ≤ e) (h1 : e ≤ 100) (h2 : 0 ≤ ep) (h3 : ep ≤ 100) (w : World) :
    Calls Tryz.prog 144 #[.agg #[.int .i64 e, .int .i64 k, .int .i64 o], .int .i64 ep] w fun r w' => r = .returned (.tuple #[.int .i64 v, errV c]) ∧ Below w.heap.size w w' := by
  have g := ringOf e k o ep w h0 h1 h2 h3
  rwa [h] at g
end Go.Proofs.YtlnghfmcofmkjaaGreatDoor

namespace Go.Proofs.YtlnghfmcofmkjaaGreatDoor
open Go.RowKit

set_option maxHeartbeats 1000000 in
theorem ticketMade {e k o n u : Int} (hk : 0 ≤ k ∧ k < 999983) (hn : 0 ≤ n ∧ n < 999983) (hu : 0 ≤ u ∧ u ≤ 100000) (w : World) :
    Calls Tryz.prog 132 #[.agg #[.int .i64 e, .int .i64 k, .int .i64 o], .int .i64 n, .int .i64 u] w fun r w' => r = .returned (.agg #[.int .i64 e, .int .i64 n, .int .i64 u, .int .i64 (tagOf k [2, n, u])]) ∧ Below w.heap.size w w' := by
  have O := hide (tagOf3 hk (show (0 : Int) ≤ 2 ∧ (2 : Int) < 999983 by omega) hn (show 0 ≤ u ∧ u < 999983 by omega))
  go_enter Tryz.func132, Tryz.ntmps132
  go_wp2_with fail
  go_region_held3 (fun w' => w'.cell? ⟨w.heap.size, 0, none⟩ = some (.int .i64 e) ∧ w'.cell? ⟨w.heap.size, 1, none⟩ = some (.int .i64 k)) (go_keep)
    (first | (go_at_call 44; refine (O.out _ _ ?_).mono ?_; (first | (with_reducible refine ObjAt.drew ?_; exact objNew (by simp)) | exact objNew (by simp)); rintro e1 w1 ⟨rfl, rfl⟩))
  all_goals go_wp2
  all_goals go_returns
  all_goals exact ⟨rfl, by go_grown⟩

/-- the fault of a ticket that is to be made -/
def tkmE (e k o n u : Int) : Int := if ringE e k o ≠ 0 then ringE e k o else if inB n && tmB u then 0 else 1
theorem tkmE_cases (e k o n u : Int) : (tkmE e k o n u = 0 ∧ ringE e k o = 0 ∧ inB n = true ∧ tmB u = true) ∨ tkmE e k o n u ≠ 0 := by
  unfold tkmE
  by_cases hr : ringE e k o = 0
  · rw [if_neg (by simp [hr])]
    cases h : inB n && tmB u
    · right; simp
    · left
      simp only [Bool.and_eq_true] at h
      exact ⟨rfl, hr, h.1, h.2⟩
  · rw [if_pos hr]; exact .inr hr
end Go.Proofs.YtlnghfmcofmkjaaGreatDoor
