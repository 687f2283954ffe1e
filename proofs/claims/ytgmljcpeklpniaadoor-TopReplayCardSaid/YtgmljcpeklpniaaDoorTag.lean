/- tag.In, tag.Of, tag.Make by contracts. -/
import Derived.Test.YtgmljcpeklpniaaDoorErrV
import Derived.Test.YtgmljcpeklpniaaDoorPlain
import Derived.Test.YtgmljcpeklpniaaDoorOpen
import Derived.Test.YtgmljcpeklpniaaDoorObj
import Derived.Handy
import Derived.Deep.QuietTactic
import Derived.BigQuiet
namespace Go.Proofs.YtgmljcpeklpniaaDoor
open Go.RowKit

def inB (n : Int) : Bool := decide (0 ≤ n ∧ n < 999983)
theorem inB_true {n : Int} : inB n = true ↔ 0 ≤ n ∧ n < 999983 := by simp [inB]
theorem inB_false {n : Int} : inB n = false ↔ n < 0 ∨ 999983 ≤ n := by simp [inB]; omega

theorem tagIn (n : Int) (w : World) : Calls Tryd.prog 36 #[.int .i64 n] w fun e w' => e = .returned (.bool (inB n)) ∧ w = w' := by
  have hc : n < 0 ∨ (0 ≤ n ∧ 999983 ≤ n) ∨ (0 ≤ n ∧ n < 999983) := by omega
  rcases hc with h | ⟨h1, h2⟩ | ⟨h1, h2⟩
  all_goals
    go_enter Tryd.func36, Tryd.ntmps36
    go_wp2
    go_ret
    exact ⟨retB (by first | exact (decide_eq_true (by omega)).symm | exact (decide_eq_false (by omega)).symm | (simp only [inB, decide_eq_decide]; omega)), rfl⟩

theorem take_snoc_getD (zs : List Int) (k : Nat) (h : k < zs.length) : zs.take (k + 1) = zs.take k ++ [zs.getD k 0] := by
  rw [List.take_succ_eq_append_getElem h]; simp [List.getD, h]

/-- the tag of the numbers of a row -/
theorem tagOf_row (key : Int) (zs : List Int) (b off cap : Nat) (w : World) (hk : 0 ≤ key ∧ key < 999983) (hz : ∀ x ∈ zs, 0 ≤ x ∧ x < 999983) (hl : zs.length ≤ 1000)
    (hc : ∀ i, i < zs.length → w.cell? ⟨b, off + i, none⟩ = some (.int .i64 (zs.getD i 0))) :
    Calls Tryd.prog 37 #[.int .i64 key, .slice (some ⟨b, off, none⟩) zs.length cap] w fun e w' => e = .returned (.int .i64 (tagOf key zs)) ∧ w = w' := by
  obtain ⟨hk0, hk1⟩ := hk
  obtain ⟨n, hn⟩ : ∃ n, n = zs.length := ⟨_, rfl⟩
  have HC := hide hc
  clear hc
  rw [← hn] at hl ⊢
  have Hn := hide hn
  clear hn
  go_enter Tryd.func37, Tryd.ntmps37
  go_wp2
  go_loop [5, 11] (fun o i => ∃ k : Nat, i = .int .i64 k ∧ k ≤ n ∧ o = .int .i64 (tfold key (zs.take k))) (fun _ i => n - (intOf i).toNat)
  case atStart => exact ⟨0, rfl, by omega, rfl⟩
  case round =>
    obtain ⟨k, rfl, hk, rfl⟩ := hrel
    have hb := tfold_in key (zs.take k) ⟨hk0, hk1⟩
    obtain ⟨hb0, hb1⟩ := hb
    by_cases hlt : k < n
    · have hx := hz (zs.getD k 0) (by rw [List.getD, List.getElem?_eq_getElem (by rw [← Hn.out]; exact hlt)]; simp)
      have hcell := HC.out k (by rw [← Hn.out]; exact hlt)
      have hs : tfold key (zs.take (k + 1)) = (4099 * tfold key (zs.take k) + zs.getD k 0 + 1) % 999983 := by
        rw [take_snoc_getD zs k (by rw [← Hn.out]; exact hlt), tfold_snoc]; rfl
      have Hs := hide hs
      obtain ⟨x, hxe⟩ : ∃ x, x = zs.getD k 0 := ⟨_, rfl⟩
      rw [← hxe] at hx hcell
      have Hx := hide hxe
      obtain ⟨hx0, hx1⟩ := hx
      clear hs hxe hz
      go_wp2
      go_round
      case rel => exact ⟨k + 1, by go_num, by omega, by rw [Hs.out, ← Hx.out]⟩
      case measure => simp [intOf]; omega
    · obtain rfl : k = n := by omega
      have ht : tagOf key zs = (4099 * tfold key (zs.take k) + key) % 999983 := by
        rw [List.take_of_length_le (by rw [← Hn.out]; exact Nat.le_refl _)]; rfl
      have Ht := hide ht
      clear ht
      go_wp2
      go_ret
      exact ⟨retI Ht.out.symm, rfl⟩
/-- .. of no number -/
theorem tagOf_nil (key : Int) (a : Option Addr) (cap : Nat) (w : World) (hk : 0 ≤ key ∧ key < 999983) :
    Calls Tryd.prog 37 #[.int .i64 key, .slice a 0 cap] w fun e w' => e = .returned (.int .i64 (tagOf key [])) ∧ w = w' := by
  obtain ⟨hk0, hk1⟩ := hk
  go_enter Tryd.func37, Tryd.ntmps37
  go_wp2
  go_rounds 1
  go_ret
  exact ⟨rfl, rfl⟩
theorem tagOf_any (key : Int) (a : Option Addr) (len cap : Nat) (zs : List Int) (w : World) (hk : 0 ≤ key ∧ key < 999983) (hr : IntRow w a len zs) (hz : ∀ x ∈ zs, 0 ≤ x ∧ x < 999983) (hl : len ≤ 1000) :
    Calls Tryd.prog 37 #[.int .i64 key, .slice a len cap] w fun e w' => e = .returned (.int .i64 (tagOf key zs)) ∧ w = w' := by
  obtain ⟨h1, _, _, h4⟩ := hr
  rcases h4 with h0 | ⟨b, off, rfl, _, hc⟩
  · subst h0
    obtain rfl : zs = [] := List.eq_nil_of_length_eq_zero h1
    exact tagOf_nil key a cap w hk
  · subst h1
    exact tagOf_row key zs b off cap w hk hz hl (fun i hi => by have := hc i 0 hi (by omega); simpa using this)

theorem tagOf1 {key x : Int} (hk : 0 ≤ key ∧ key < 999983) (hx : 0 ≤ x ∧ x < 999983) (W : World) (b : Nat) (h : ObjAt W b 3 [.int .i64 x]) :
    Calls Tryd.prog 37 #[.int .i64 key, .slice (some ⟨b, 0, none⟩) 1 1] W fun e w' => e = .returned (.int .i64 (tagOf key [x])) ∧ W = w' := by
  refine tagOf_row key [x] b 0 1 W hk (by simpa using hx) (by simp) ?_
  intro i hi
  match i, hi with
  | 0, _ => simpa using h.cell (i := 0) rfl
theorem tagOf3 {key x y z : Int} (hk : 0 ≤ key ∧ key < 999983) (hx : 0 ≤ x ∧ x < 999983) (hy : 0 ≤ y ∧ y < 999983) (hz : 0 ≤ z ∧ z < 999983) (W : World) (b : Nat)
    (h : ObjAt W b 3 [.int .i64 x, .int .i64 y, .int .i64 z]) :
    Calls Tryd.prog 37 #[.int .i64 key, .slice (some ⟨b, 0, none⟩) 3 3] W fun e w' => e = .returned (.int .i64 (tagOf key [x, y, z])) ∧ W = w' := by
  refine tagOf_row key [x, y, z] b 0 3 W hk (by simp; omega) (by simp) ?_
  intro i hi
  match i, hi with
  | 0, _ => simpa using h.cell (i := 0) rfl
  | 1, _ => simpa using h.cell (i := 1) rfl
  | 2, _ => simpa using h.cell (i := 2) rfl

/-- the fault of a key and numbers -/
def mkE (key : Int) (zs : List Int) : Int := if inB key = false then 1 else if 12 < zs.length then 4 else if zs.all inB then 0 else 1
/-- what Make tells -/
def mkV (key : Int) (zs : List Int) : Int := if mkE key zs = 0 then tagOf key zs else 0

/-- In at a number of the list, wherever the answer is known -/
theorem tagIn_eq {n : Int} {v : Bool} (h : inB n = v) (w : World) : Calls Tryd.prog 36 #[.int .i64 n] w fun e w' => e = .returned (.bool v) ∧ w = w' := by
  have g := tagIn n w
  rwa [h] at g

theorem tagMake_ok0 (key : Int) (a : Option Addr) (cap : Nat) (w : World) (hk : inB key = true) :
    Calls Tryd.prog 34 #[.int .i64 key, .slice a 0 cap] w fun e w' => e = .returned (.tuple #[.int .i64 (tagOf key []), .nilIface]) ∧ w = w' := by
  have TO := hide (fun W => tagOf_nil key a cap W (inB_true.1 hk))
  have T0 := hide (fun W => tagIn_eq hk W)
  clear hk
  go_enter Tryd.func34, Tryd.ntmps34
  go_wp2_with fail
  refine (T0.out _).mono ?_
  rintro e w1 ⟨rfl, rfl⟩
  go_wp2_with fail
  refine wp_loop_rounds 1 ?_
  rw [rounds_succ]
  go_wp2_with fail
  refine (TO.out _).mono ?_
  rintro e w1 ⟨rfl, rfl⟩
  go_wp2
  go_ret2
  exact ⟨rfl, rfl⟩

theorem tagMake_ok1 (key : Int) (b off len cap : Nat) (zs : List Int) (w : World) (hk : inB key = true) (hlen : zs.length = len) (hl : len ≤ 12) (hz : zs.all inB = true)
    (hc : ∀ i, i < len → w.cell? ⟨b, off + i, none⟩ = some (.int .i64 (zs.getD i 0))) :
    Calls Tryd.prog 34 #[.int .i64 key, .slice (some ⟨b, off, none⟩) len cap] w fun e w' => e = .returned (.tuple #[.int .i64 (tagOf key zs), .nilIface]) ∧ w = w' := by
  have hz' : ∀ x ∈ zs, 0 ≤ x ∧ x < 999983 := fun x hx => inB_true.1 (List.all_eq_true.1 hz x hx)
  have TO : Hid (∀ W, (∀ i, i < len → W.cell? ⟨b, off + i, none⟩ = some (.int .i64 (zs.getD i 0))) → Calls Tryd.prog 37 #[.int .i64 key, .slice (some ⟨b, off, none⟩) len cap] W fun e w' => e = .returned (.int .i64 (tagOf key zs)) ∧ W = w') := by
    intro W hW; subst hlen; exact tagOf_row key zs b off cap W (inB_true.1 hk) hz' (by omega) hW
  have T0 := hide (fun W => tagIn_eq hk W)
  have TI : Hid (∀ i, i < len → ∀ W, Calls Tryd.prog 36 #[.int .i64 (zs.getD i 0)] W fun e w' => e = .returned (.bool true) ∧ W = w') := by
    intro i hi W
    exact tagIn_eq (List.all_eq_true.1 hz _ (by rw [List.getD, List.getElem?_eq_getElem (by omega)]; simp)) W
  have HC := hide hc
  clear hc hk hz hz' hlen
  go_enter Tryd.func34, Tryd.ntmps34
  go_wp2_with fail
  refine (T0.out _).mono ?_
  rintro e w1 ⟨rfl, rfl⟩
  go_wp2_with fail
  go_loop [20] (fun i => ∃ k : Nat, i = .int .i64 k ∧ k ≤ len) (fun i => len - (intOf i).toNat)
  case atStart => exact ⟨0, rfl, by omega⟩
  case round =>
    obtain ⟨k, rfl, hk⟩ := hrel
    by_cases hlt : k < len
    · have hcell := HC.out k hlt
      have TK := hide (TI.out k hlt)
      obtain ⟨x, hx⟩ : ∃ x, x = zs.getD k 0 := ⟨_, rfl⟩
      rw [← hx] at hcell TK
      clear hx
      go_wp2_with fail
      refine (TK.out _).mono ?_
      rintro e w1 ⟨rfl, rfl⟩
      go_wp2
      go_round
      case rel => exact ⟨k + 1, by go_num, by omega⟩
      case measure => simp [intOf]; omega
    · obtain rfl : k = len := by omega
      go_wp2_with fail
      refine (TO.out _ HC.out).mono ?_
      rintro e w1 ⟨rfl, rfl⟩
      go_wp2
      go_ret2
      exact ⟨rfl, rfl⟩

/-- a number of the list is none such: the first k are -/
theorem tagMake_bad (key : Int) (b off len cap : Nat) (zs : List Int) (w : World) (hk : inB key = true) (hlen : zs.length = len) (hl : len ≤ 12) (hz : zs.all inB = false)
    (hc : ∀ i, i < len → w.cell? ⟨b, off + i, none⟩ = some (.int .i64 (zs.getD i 0))) :
    Calls Tryd.prog 34 #[.int .i64 key, .slice (some ⟨b, off, none⟩) len cap] w fun e w' => e = .returned (.tuple #[.int .i64 0, .iface 60 (.int .i64 1)]) ∧ w = w' := by
  have T0 := hide (fun W => tagIn_eq hk W)
  have TI : Hid (∀ i, i < len → ∀ W, Calls Tryd.prog 36 #[.int .i64 (zs.getD i 0)] W fun e w' => e = .returned (.bool (inB (zs.getD i 0))) ∧ W = w') := fun i _ W => tagIn _ W
  have HC := hide hc
  have HZ : Hid (zs.all inB = false) := hide hz
  have HL := hide hlen
  clear hc hk hz hlen
  go_enter Tryd.func34, Tryd.ntmps34
  go_wp2_with fail
  refine (T0.out _).mono ?_
  rintro e w1 ⟨rfl, rfl⟩
  go_wp2_with fail
  go_loop [20] (fun i => ∃ k : Nat, i = .int .i64 k ∧ k ≤ len ∧ (zs.take k).all inB = true) (fun i => len - (intOf i).toNat)
  case atStart => exact ⟨0, rfl, by omega, rfl⟩
  case round =>
    obtain ⟨k, rfl, hk, hall⟩ := hrel
    have Hall := hide hall
    clear hall
    by_cases hlt : k < len
    · have hcell := HC.out k hlt
      have TK := hide (TI.out k hlt)
      obtain ⟨x, hx⟩ : ∃ x, x = zs.getD k 0 := ⟨_, rfl⟩
      rw [← hx] at hcell TK
      have Hx := hide hx
      clear hx
      cases hi : inB x
      · rw [hi] at TK
        clear hi
        go_wp2_with fail
        refine (TK.out _).mono ?_
        rintro e w1 ⟨rfl, rfl⟩
        go_wp2
        go_ret2
        exact ⟨rfl, rfl⟩
      · rw [hi] at TK
        have Hi := hide hi
        clear hi
        go_wp2_with fail
        refine (TK.out _).mono ?_
        rintro e w1 ⟨rfl, rfl⟩
        go_wp2
        go_round
        case rel => exact ⟨k + 1, by go_num, by omega, by rw [take_snoc_getD zs k (by rw [HL.out]; exact hlt), List.all_append, Hall.out, ← Hx.out]; simp [Hi.out]⟩
        case measure => simp [intOf]; omega
    · exfalso
      have := Hall.out
      rw [List.take_of_length_le (by rw [HL.out]; omega), HZ.out] at this
      cases this

theorem tagMake_key (key : Int) (a : Option Addr) (len cap : Nat) (w : World) (hk : inB key = false) :
    Calls Tryd.prog 34 #[.int .i64 key, .slice a len cap] w fun e w' => e = .returned (.tuple #[.int .i64 0, .iface 60 (.int .i64 1)]) ∧ w = w' := by
  have T0 := hide (fun W => tagIn_eq hk W)
  clear hk
  go_enter Tryd.func34, Tryd.ntmps34
  go_wp2_with fail
  refine (T0.out _).mono ?_
  rintro e w1 ⟨rfl, rfl⟩
  go_wp2
  go_ret2
  exact ⟨rfl, rfl⟩
theorem tagMake_full (key : Int) (a : Option Addr) (len cap : Nat) (w : World) (hk : inB key = true) (hl : 12 < len) (hm : len ≤ maxLen) :
    Calls Tryd.prog 34 #[.int .i64 key, .slice a len cap] w fun e w' => e = .returned (.tuple #[.int .i64 0, .iface 60 (.int .i64 4)]) ∧ w = w' := by
  have T0 := hide (fun W => tagIn_eq hk W)
  unfold maxLen at hm
  clear hk
  go_enter Tryd.func34, Tryd.ntmps34
  go_wp2_with fail
  refine (T0.out _).mono ?_
  rintro e w1 ⟨rfl, rfl⟩
  go_wp2
  go_ret2
  exact ⟨rfl, rfl⟩

theorem tagMake (key : Int) (a : Option Addr) (len cap : Nat) (zs : List Int) (w : World) (hr : IntRow w a len zs) :
    Calls Tryd.prog 34 #[.int .i64 key, .slice a len cap] w fun e w' => e = .returned (.tuple #[.int .i64 (mkV key zs), errV (mkE key zs)]) ∧ w = w' := by
  obtain ⟨h1, h2, _, h4⟩ := hr
  cases hk : inB key
  · have e1 : mkE key zs = 1 := by simp [mkE, hk]
    have e2 : mkV key zs = 0 := by simp [mkV, e1]
    rw [e1, e2]
    exact tagMake_key key a len cap w hk
  · by_cases hl : 12 < len
    · have e1 : mkE key zs = 4 := by simp [mkE, hk, h1, hl]
      have e2 : mkV key zs = 0 := by simp [mkV, e1]
      rw [e1, e2]
      exact tagMake_full key a len cap w hk hl h2
    · cases hz : zs.all inB
      · have e1 : mkE key zs = 1 := by unfold mkE; rw [if_neg (by simp [hk]), if_neg (by omega), hz]; rfl
        have e2 : mkV key zs = 0 := by simp [mkV, e1]
        rw [e1, e2]
        rcases h4 with h0 | ⟨b, off, rfl, _, hc⟩
        · subst h0
          obtain rfl : zs = [] := List.eq_nil_of_length_eq_zero h1
          simp at hz
        · exact tagMake_bad key b off len cap zs w hk h1 (by omega) hz (fun i hi => by have := hc i 0 hi (by omega); simpa using this)
      · have e1 : mkE key zs = 0 := by unfold mkE; rw [if_neg (by simp [hk]), if_neg (by omega), hz]; rfl
        have e2 : mkV key zs = tagOf key zs := by simp [mkV, e1]
        rw [e1, e2]
        rcases h4 with h0 | ⟨b, off, rfl, _, hc⟩
        · subst h0
          obtain rfl : zs = [] := List.eq_nil_of_length_eq_zero h1
          exact tagMake_ok0 key a cap w hk
        · exact tagMake_ok1 key b off len cap zs w hk h1 (by omega) hz (fun i hi => by have := hc i 0 hi (by omega); simpa using this)
theorem tagMake_eq {key v c : Int} {zs : List Int} (h1 : mkV key zs = v) (h2 : mkE key zs = c) {a : Option Addr} {len cap : Nat} {w : World} (hr : IntRow w a len zs) :
    Calls Tryd.prog 34 #[.int .i64 key, .slice a len cap] w fun e w' => e = .returned (.tuple #[.int .i64 v, errV c]) ∧ w = w' := by
  have g := tagMake key a len cap zs w hr
  rwa [h1, h2] at g
theorem introw_nil (w : World) : IntRow w none 0 [] := ⟨rfl, by simp, by simp, .inl rfl⟩
end Go.Proofs.YtgmljcpeklpniaaDoor
