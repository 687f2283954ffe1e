/- Who is told to come again comes again: the session's text, plainly. -/
import Derived.Test.YtlnghfmcofmkjaaGreatDoorRunComesProofM43
namespace Go.Proofs.YtlnghfmcofmkjaaGreatDoor
open Go.RowKit

theorem digL_dec {n : Int} (h : numOk n) : digL n = Lib.decDigits n.toNat := by
  unfold digL
  exact digF_eq 6 _ (by have := h.2; show n.toNat < 10000000; omega)
theorem digL_len {n : Int} (h : numOk n) : (digL n).length ≤ 6 := by
  rw [digL_dec h, Lib.decDigits_length]
  have h1 := h.1
  have h2 := h.2
  have g : ∀ u : Nat, u < 1000000 → Lib.nDigits u ≤ 6 := by
    intro u hu
    by_cases a1 : u < 10
    · rw [Lib.nDigits_small a1]; omega
    · by_cases a2 : u < 100
      · rw [Lib.nDigits_unique 1 u (by omega) (by omega)]; omega
      · by_cases a3 : u < 1000
        · rw [Lib.nDigits_unique 2 u (by omega) (by omega)]; omega
        · by_cases a4 : u < 10000
          · rw [Lib.nDigits_unique 3 u (by omega) (by omega)]; omega
          · by_cases a5 : u < 100000
            · rw [Lib.nDigits_unique 4 u (by omega) (by omega)]; omega
            · rw [Lib.nDigits_unique 5 u (by omega) (by omega)]; omega
  exact g _ (by omega)
theorem digL_num {n : Int} (h : numOk n) : numL (digL n) = some n.toNat := by
  have h1 := digL_len h
  rw [digL_dec h] at h1 ⊢
  exact numL_of h1
theorem digL_digit {n : Int} (h : numOk n) : ∀ c ∈ digL n, 48 ≤ c.toNat ∧ c.toNat ≤ 57 := by
  rw [digL_dec h]
  exact decDigits_digit _
theorem digL_no {n : Int} (h : numOk n) {x : UInt8} (hx : x.toNat < 48) : ∀ c ∈ digL n, c ≠ x := by
  intro c hc e
  have := digL_digit h c hc
  rw [e] at this
  omega
theorem digL_ne {n : Int} (h : numOk n) : digL n ≠ [] := by
  rw [digL_dec h]
  exact decDigits_ne _
theorem rowL_cut : ∀ (ns : List Int), ns ≠ [] → (∀ n ∈ ns, numOk n) → cutL 32 (rowL ns) = ns.map digL := by
  intro ns
  induction ns with
  | nil => intro h _; exact absurd rfl h
  | cons n ns ih =>
    intro _ hk
    have hn := digL_no (hk n (by simp)) (x := 32) (by decide)
    cases ns with
    | nil => rw [rowL, cutL_none hn]; rfl
    | cons m r => rw [rowL, cutL_some hn, ih (by simp) (fun x hx => hk x (by simp [hx]))]; rfl
theorem rowL_nums : ∀ (ns : List Int), (∀ n ∈ ns, numOk n) → numsL (ns.map digL) = some (ns.map Int.toNat) := by
  intro ns
  induction ns with
  | nil => intro _; rfl
  | cons n ns ih =>
    intro hk
    rw [List.map_cons, numsL, digL_num (hk n (by simp)), ih (fun x hx => hk x (by simp [hx]))]
    rfl
theorem rowL_no10 : ∀ (ns : List Int), (∀ n ∈ ns, numOk n) → ∀ c ∈ rowL ns, c ≠ 10 := by
  intro ns
  induction ns with
  | nil => intro _ c hc; cases hc
  | cons n ns ih =>
    intro hk c hc
    have hn := digL_no (hk n (by simp)) (x := 10) (by decide)
    cases ns with
    | nil => exact hn c hc
    | cons m r =>
      rw [rowL] at hc
      rcases List.mem_append.1 hc with h | h
      · exact hn c h
      · rcases List.mem_cons.1 h with rfl | h
        · decide
        · exact ih (fun x hx => hk x (by simp [hx])) c h
theorem rowL_len {n : Int} {r : List Int} (h : numOk n) : 1 ≤ (rowL (n :: r)).length := by
  have h1 := digL_ne h
  have h2 : 1 ≤ (digL n).length := by
    cases hd : digL n with
    | nil => exact absurd hd h1
    | cons x l => simp
  cases r with
  | nil => exact h2
  | cons m r => rw [rowL]; simp; omega
/-- a word with numerals is read as it stands -/
theorem read_row {w : List UInt8} {ns : List Int} (hw : ∀ c ∈ w, c ≠ 32) (hm : wantsL w = some ns.length) (hn : ns ≠ []) (hk : ∀ n ∈ ns, numOk n) : readL (w ++ 32 :: rowL ns) = some (w, ns.map Int.toNat) := by
  unfold readL
  rw [cutL_some hw, rowL_cut ns hn hk]
  simp only
  rw [hm, rowL_nums ns hk]
  simp
def helloW : List UInt8 := [104, 101, 108, 108, 111]
def againW : List UInt8 := [97, 103, 97, 105, 110]
theorem toN {n : Int} (h : numOk n) : ((n.toNat : Nat) : Int) = n := by have := h.1; omega
theorem line_hello {A : Vals} {a now : Int} (ha : numOk a) (hn : numOk now) : lineR A (helloW ++ 32 :: rowL [a, now]) = helloR A a 0 0 0 0 now := by
  unfold lineR
  rw [read_row (by decide) (show wantsL helloW = some 2 by decide) (by simp) (by intro n hx; simp at hx; rcases hx with rfl | rfl <;> assumption)]
  simp only
  unfold doR
  rw [if_pos (by decide)]
  simp [toN ha, toN hn]
theorem line_again {A : Vals} {a t0 t1 t2 t3 now : Int} (ha : numOk a) (h0 : numOk t0) (h1 : numOk t1) (h2 : numOk t2) (h3 : numOk t3) (hn : numOk now) : lineR A (againW ++ 32 :: rowL [a, t0, t1, t2, t3, now]) = helloR A a t0 t1 t2 t3 now := by
  unfold lineR
  rw [read_row (by decide) (show wantsL againW = some 6 by decide) (by simp) (by intro n hx; simp at hx; rcases hx with rfl | rfl | rfl | rfl | rfl | rfl <;> assumption)]
  simp only
  unfold doR
  rw [if_neg (by decide), if_pos (by decide)]
  simp [toN ha, toN hn, toN h0, toN h1, toN h2, toN h3]
/-- the server when i wait -/
def waitV (i : Int) (zs : List (Int × Int)) : Vals := { firstV with cn := i, zs := zs }
theorem waitV_ring (i : Int) (zs : List (Int × Int)) : ringE (waitV i zs).e (waitV i zs).k (waitV i zs).o = 0 := by
  show ringE 0 (tagOf 7 [0]) 0 = 0
  decide
theorem hello_wel {i : Int} {zs : List (Int × Int)} {a now t0 t1 t2 t3 : Int} (ha : inB a = true) (hn : tmB now = true) (hz : zs.length < 4 ∨ (zs.length < 8 ∧ rightB 0 (tagOf 7 [0]) 0 t0 t1 t2 t3 a now 50 = true)) :
    helloR (waitV i zs) a t0 t1 t2 t3 now = (welW ++ digL (connN 0 i), waitV (i + 1) (zs ++ [(0, i)])) := by
  have hk : kindR (waitV i zs) a t0 t1 t2 t3 now = (1, false, 0) := by
    unfold kindR ansN
    rw [if_neg (by rw [waitV_ring]; simp), if_neg (by rw [ha, hn]; decide)]
    have hnd : needsOf ((waitV i zs).zs.length : Int) (rightB (waitV i zs).e (waitV i zs).k (waitV i zs).o t0 t1 t2 t3 a now 50) (oldB (waitV i zs).e (waitV i zs).k (waitV i zs).o 0 0 0 0 now) = (1, 0) := by
      show needsOf (zs.length : Int) (rightB 0 (tagOf 7 [0]) 0 t0 t1 t2 t3 a now 50) _ = (1, 0)
      unfold needsOf
      rw [if_neg (by omega), if_neg (by omega), if_neg]
      rintro ⟨h1, h2, _⟩
      rcases hz with h | ⟨_, h⟩
      · omega
      · rw [h] at h2; cases h2
    rw [hnd, if_neg (by simp), old_none]
    simp [earlyB]
  unfold helloR
  rw [hk]
  rfl
theorem hello_ret {i : Int} {zs : List (Int × Int)} {a now : Int} (ha : inB a = true) (hn : tmB now = true) (hz : zs.length = 4) :
    helloR (waitV i zs) a 0 0 0 0 now = (retW ++ rowL [0, a, now, tagOf (tagOf 7 [0]) [1, a, now]], waitV i zs) := by
  have hk : kindR (waitV i zs) a 0 0 0 0 now = (0, false, 0) := by
    unfold kindR ansN
    rw [if_neg (by rw [waitV_ring]; simp), if_neg (by rw [ha, hn]; decide)]
    have hnd : needsOf ((waitV i zs).zs.length : Int) (rightB (waitV i zs).e (waitV i zs).k (waitV i zs).o 0 0 0 0 a now 50) (oldB (waitV i zs).e (waitV i zs).k (waitV i zs).o 0 0 0 0 now) = (0, 0) := by
      show needsOf (zs.length : Int) (rightB 0 (tagOf 7 [0]) 0 0 0 0 0 a now 50) _ = (0, 0)
      rw [old_none, show rightB 0 (tagOf 7 [0]) 0 0 0 0 0 a now 50 = false by unfold rightB; simp]
      unfold needsOf
      rw [if_neg (by omega), if_neg (by omega), if_pos ⟨by omega, rfl, rfl⟩]
    rw [hnd, if_neg (by simp), old_none]
    simp [earlyB]
  unfold helloR
  rw [hk]
  rfl
theorem again_right {a now later : Int} (ha : 0 ≤ a ∧ a ≤ 900000) (hn : 0 ≤ now ∧ now ≤ 90000) (hl : 0 ≤ later ∧ later ≤ 50) : rightB 0 (tagOf 7 [0]) 0 0 a now (tagOf (tagOf 7 [0]) [1, a, now]) a (now + later) 50 = true := by
  unfold rightB
  rw [tokE_at (e := 0) (k := tagOf 7 [0]) (o := 0) (waitV_ring 0 []) (by decide) (ringOfN_self _ _ _) (inB_true.2 ⟨by omega, by omega⟩) (tmB_true.2 ⟨by omega, by omega⟩) (inB_true.2 ⟨by omega, by omega⟩) (tmB_true.2 ⟨by omega, by omega⟩) (by decide), if_neg (by simp), if_neg (by omega)]
  have h : ((0 : Int) == 0 && a == 0 && now == 0 && tagOf (tagOf 7 [0]) [1, a, now] == 0) = false := by
    by_cases h1 : a = 0
    · by_cases h2 : now = 0
      · subst h1; subst h2; decide
      · simp [h2]
    · simp [h1]
  rw [h]
  rfl
/-- the session's text; its answers -/
def oneT (now : Int) : List UInt8 := helloW ++ 32 :: rowL [1, now]
def comesT (a now : Int) : List UInt8 := oneT now ++ 10 :: (oneT now ++ 10 :: (oneT now ++ 10 :: (oneT now ++ 10 :: (helloW ++ 32 :: rowL [a, now] ++ 10 :: []))))
def wl (i : Int) : List UInt8 := welW ++ digL (connN 0 i)
def rt (a now : Int) : List UInt8 := retW ++ rowL [0, a, now, tagOf (tagOf 7 [0]) [1, a, now]]
def comesW (a now : Int) (r : List UInt8) : List UInt8 := wl 0 ++ 10 :: (wl 1 ++ 10 :: (wl 2 ++ 10 :: (wl 3 ++ 10 :: (rt a now ++ 10 :: r))))
theorem no10_word {w : List UInt8} {ns : List Int} (hw : ∀ c ∈ w, c ≠ 10) (hk : ∀ n ∈ ns, numOk n) : ∀ c ∈ w ++ 32 :: rowL ns, c ≠ 10 := by
  intro c hc
  rcases List.mem_append.1 hc with h | h
  · exact hw c h
  · rcases List.mem_cons.1 h with rfl | h
    · decide
    · exact rowL_no10 ns hk c h
theorem comes_text {a now : Int} (ha : numOk a) (hn : numOk now) (r : List UInt8) : textL (comesT a now ++ r) = oneT now :: oneT now :: oneT now :: oneT now :: (helloW ++ 32 :: rowL [a, now]) :: textL r := by
  have h1 : ∀ c ∈ oneT now, c ≠ 10 := no10_word (by decide) (by intro n hx; simp at hx; rcases hx with rfl | rfl; exact ⟨by decide, by decide⟩; exact hn)
  have h2 : ∀ c ∈ helloW ++ 32 :: rowL [a, now], c ≠ 10 := no10_word (by decide) (by intro n hx; simp at hx; rcases hx with rfl | rfl <;> assumption)
  unfold comesT
  simp only [List.append_assoc, List.cons_append]
  have e : helloW ++ 32 :: (rowL [a, now] ++ 10 :: ([] ++ r)) = (helloW ++ 32 :: rowL [a, now]) ++ 10 :: r := by simp
  rw [textL_line h1, textL_line h1, textL_line h1, textL_line h1, e, textL_line h2]
theorem comes_run {a now : Int} (ha : 0 ≤ a ∧ a ≤ 900000) (hn : 0 ≤ now ∧ now ≤ 90000) (r : List UInt8) : linesR firstV (textL (comesT a now ++ r)) = comesW a now (linesR (waitV 4 [(0, 0), (0, 1), (0, 2), (0, 3)]) (textL r)) := by
  have na : numOk a := ⟨by omega, by omega⟩
  have nn : numOk now := ⟨by omega, by omega⟩
  have ia : inB a = true := inB_true.2 ⟨by omega, by omega⟩
  have tn : tmB now = true := tmB_true.2 ⟨by omega, by omega⟩
  have i1 : inB 1 = true := by decide
  have n1 : numOk 1 := ⟨by decide, by decide⟩
  rw [comes_text na nn]
  have e0 : firstV = waitV 0 [] := rfl
  rw [e0]
  unfold comesW
  have s0 := (line_hello (A := waitV 0 []) n1 nn).trans (hello_wel i1 tn (.inl (by decide)))
  have s1 := (line_hello (A := waitV 1 [(0, 0)]) n1 nn).trans (hello_wel i1 tn (.inl (by decide)))
  have s2 := (line_hello (A := waitV 2 [(0, 0), (0, 1)]) n1 nn).trans (hello_wel i1 tn (.inl (by decide)))
  have s3 := (line_hello (A := waitV 3 [(0, 0), (0, 1), (0, 2)]) n1 nn).trans (hello_wel i1 tn (.inl (by decide)))
  have s4 := (line_hello (A := waitV 4 [(0, 0), (0, 1), (0, 2), (0, 3)]) na nn).trans (hello_ret ia tn rfl)
  have c0 : waitV (0 + 1) ([] ++ [(0, 0)]) = waitV 1 [(0, 0)] := rfl
  have c1 : waitV (1 + 1) ([(0, 0)] ++ [(0, 1)]) = waitV 2 [(0, 0), (0, 1)] := rfl
  have c2 : waitV (2 + 1) ([(0, 0), (0, 1)] ++ [(0, 2)]) = waitV 3 [(0, 0), (0, 1), (0, 2)] := rfl
  have c3 : waitV (3 + 1) ([(0, 0), (0, 1), (0, 2)] ++ [(0, 3)]) = waitV 4 [(0, 0), (0, 1), (0, 2), (0, 3)] := rfl
  rw [c0] at s0
  rw [c1] at s1
  rw [c2] at s2
  rw [c3] at s3
  unfold oneT
  rw [linesR, s0, linesR, s1, linesR, s2, linesR, s3, linesR, s4]
  rfl
theorem comes_again {a now later : Int} (ha : 0 ≤ a ∧ a ≤ 900000) (hn : 0 ≤ now ∧ now ≤ 90000) (hl : 0 ≤ later ∧ later ≤ 50) :
    linesR (waitV 4 [(0, 0), (0, 1), (0, 2), (0, 3)]) (textL (againW ++ 32 :: rowL [a, 0, a, now, tagOf (tagOf 7 [0]) [1, a, now], now + later] ++ 10 :: [])) = wl 4 ++ 10 :: [] := by
  have na : numOk a := ⟨by omega, by omega⟩
  have nn : numOk now := ⟨by omega, by omega⟩
  have nl : numOk (now + later) := ⟨by omega, by omega⟩
  have n0 : numOk 0 := ⟨by decide, by decide⟩
  have nt := tag_ok (tagOf 7 [0]) [1, a, now]
  rw [textL_line (no10_word (by decide) (by intro n hx; simp at hx; rcases hx with rfl | rfl | rfl | rfl | rfl | rfl <;> assumption)), linesR,
    line_again na n0 na nn nt nl, hello_wel (inB_true.2 ⟨by omega, by omega⟩) (tmB_true.2 ⟨by omega, by omega⟩) (.inr ⟨by decide, again_right ha hn hl⟩)]
  rfl
theorem comes_len (a now : Int) (ha : numOk a) (hn : numOk now) : (comesT a now).length ≤ 500 := by
  have h1 := digL_len ha
  have h2 := digL_len hn
  have h3 : (digL 1).length = 1 := by decide
  unfold comesT oneT
  simp [rowL, helloW]
  omega
theorem connN_ok (i : Int) (h : 0 ≤ i ∧ i < 4096) : numOk (connN 0 i) := by
  unfold connN xn
  have : (4096 * 0 + i).toNat ^^^ 21845 < 2 ^ 16 := Nat.xor_lt_two_pow (by omega) (by decide)
  exact ⟨by omega, by omega⟩
theorem wl_no10 (i : Int) (h : 0 ≤ i ∧ i < 4096) : ∀ c ∈ wl i, c ≠ 10 := by
  intro c hc
  rcases List.mem_append.1 hc with h1 | h1
  · exact (by decide : ∀ c ∈ welW, c ≠ 10) c h1
  · exact digL_no (connN_ok i h) (by decide) c h1
theorem rt_no10 {a now : Int} (ha : numOk a) (hn : numOk now) : ∀ c ∈ rt a now, c ≠ 10 := by
  intro c hc
  rcases List.mem_append.1 hc with h1 | h1
  · exact (by decide : ∀ c ∈ retW, c ≠ 10) c h1
  · exact rowL_no10 _ (by intro n hx; simp at hx; rcases hx with rfl | rfl | rfl | rfl; exact ⟨by decide, by decide⟩; exact ha; exact hn; exact tag_ok _ _) c h1
/-- what is answered, cut -/
theorem comes_cut {a now : Int} (ha : numOk a) (hn : numOk now) (r : List UInt8) : cutL 10 (comesW a now r) = wl 0 :: wl 1 :: wl 2 :: wl 3 :: rt a now :: cutL 10 r := by
  unfold comesW
  rw [cutL_some (wl_no10 0 (by decide)), cutL_some (wl_no10 1 (by decide)), cutL_some (wl_no10 2 (by decide)), cutL_some (wl_no10 3 (by decide)), cutL_some (rt_no10 ha hn)]
end Go.Proofs.YtlnghfmcofmkjaaGreatDoor
