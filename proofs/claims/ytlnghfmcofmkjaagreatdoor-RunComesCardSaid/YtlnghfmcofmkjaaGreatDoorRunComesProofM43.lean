/- run: the desk's do whatever the word, line, answer by contract. run: the desk's answer by contract. A session's text, plainly: its lines; the answers to a beginning; who comes again. -/
import Derived.Test.YtlnghfmcofmkjaaGreatDoorRunLine
import Derived.Test.YtlnghfmcofmkjaaGreatDoorRunComesProofM37
import Derived.Test.YtlnghfmcofmkjaaGreatDoorRunComesProofM35
namespace Go.Proofs.YtlnghfmcofmkjaaGreatDoor
open Go.RowKit

theorem RI_do {A : Vals} {t : Nat} (hI : RI A t) (ht : t < 4000) (w : List UInt8) (n : List Nat) : RI (doR A w n).2 (t + 1) := by
  unfold doR
  split
  · exact (rt_hello (B := 0) (b := 0) (r := 0) hI ht _ _ _ _ _ _).1
  · split
    · exact (rt_hello (B := 0) (b := 0) (r := 0) hI ht _ _ _ _ _ _).1
    · split
      · exact (rt_ticket (B := 0) (b := 0) (r := 0) hI ht _).1
      · split
        · exact (rt_pull (B := 0) (b := 0) hI ht).1
        · split
          · exact (rt_turn (B := 0) (b := 0) hI).1
          · split
            · exact (rt_crash (B := 0) (b := 0) (r := 0) hI).1
            · exact hI.more
theorem RI_line {A : Vals} {t : Nat} (hI : RI A t) (ht : t < 4000) (s : List UInt8) : RI (lineR A s).2 (t + 1) := by
  unfold lineR
  split
  · exact hI.more
  · exact RI_do hI ht _ _
theorem wants_len {w : List UInt8} {n : Nat} (h : wantsL w = some n) : (w = [104, 101, 108, 108, 111] ∧ n = 2) ∨ (w = [97, 103, 97, 105, 110] ∧ n = 6) ∨ (w = [116, 105, 99, 107, 101, 116] ∧ n = 1) ∨ (w = [112, 117, 108, 108] ∧ n = 0) ∨ (w = [116, 117, 114, 110] ∧ n = 0) ∨ (w = [99, 114, 97, 115, 104] ∧ n = 0) ∨ (w = [119, 97, 105, 116, 105, 110, 103] ∧ n = 0) := by
  unfold wantsL at h
  by_cases h1 : w = [104, 101, 108, 108, 111]
  · rw [if_pos h1] at h; exact .inl ⟨h1, (Option.some.inj h).symm⟩
  rw [if_neg h1] at h
  by_cases h2 : w = [97, 103, 97, 105, 110]
  · rw [if_pos h2] at h; exact .inr (.inl ⟨h2, (Option.some.inj h).symm⟩)
  rw [if_neg h2] at h
  by_cases h3 : w = [116, 105, 99, 107, 101, 116]
  · rw [if_pos h3] at h; exact .inr (.inr (.inl ⟨h3, (Option.some.inj h).symm⟩))
  rw [if_neg h3] at h
  by_cases h4 : w = [112, 117, 108, 108]
  · rw [if_pos h4] at h; exact .inr (.inr (.inr (.inl ⟨h4, (Option.some.inj h).symm⟩)))
  rw [if_neg h4] at h
  by_cases h5 : w = [116, 117, 114, 110]
  · rw [if_pos h5] at h; exact .inr (.inr (.inr (.inr (.inl ⟨h5, (Option.some.inj h).symm⟩))))
  rw [if_neg h5] at h
  by_cases h6 : w = [99, 114, 97, 115, 104]
  · rw [if_pos h6] at h; exact .inr (.inr (.inr (.inr (.inr (.inl ⟨h6, (Option.some.inj h).symm⟩)))))
  rw [if_neg h6] at h
  by_cases h7 : w = [119, 97, 105, 116, 105, 110, 103]
  · rw [if_pos h7] at h; exact .inr (.inr (.inr (.inr (.inr (.inr ⟨h7, (Option.some.inj h).symm⟩)))))
  rw [if_neg h7] at h
  cases h
theorem rdDo {B b : Nat} {A : Vals} {t : Nat} (hI : RI A t) (ht : t < 4000) {x : ByteArray} {us : List Nat} (hw : wantsL x.data.toList = some us.length) (v : Value) (K : Nat) (W : World) (F : List Nat) (hR : RealAt W B b 50 A F) (hE : EnvR K W) (hK : K ≤ B) (hB : B ≤ W.heap.size) (hv : NumsAt W v us) (hd : ∀ g, v.ownBlock = some g → g ∉ F) :
    Calls Tryz.prog 50 #[deskV b, .string x, v] W (DeskPost B b (doR A x.data.toList us).2 F W (doR A x.data.toList us).1) := by
  have hx : ∀ l : List UInt8, x.data.toList = l → x = ⟨l.toArray⟩ := fun l h => ba_of_list (by simpa using h)
  rcases wants_len hw with ⟨h, hn⟩ | ⟨h, hn⟩ | ⟨h, hn⟩ | ⟨h, hn⟩ | ⟨h, hn⟩ | ⟨h, hn⟩ | ⟨h, hn⟩
  · obtain rfl := hx _ h
    match us, hn with
    | [u0, u1], _ => exact rdDo_hello hI ht u0 u1 v K W F hR hE hK hB hv hd
  · obtain rfl := hx _ h
    match us, hn with
    | [u0, u1, u2, u3, u4, u5], _ => exact rdDo_again hI ht u0 u1 u2 u3 u4 u5 v K W F hR hE hK hB hv hd
  · obtain rfl := hx _ h
    match us, hn with
    | [u0], _ => exact rdDo_ticket hI ht u0 v K W F hR hE hK hB hv hd
  · obtain rfl := hx _ h
    exact rdDo_pull hI ht v K W F hR hE hK hB
  · obtain rfl := hx _ h
    exact rdDo_turn hI v K W F hR hE hK hB
  · obtain rfl := hx _ h
    exact rdDo_crash hI v K W F hR hE hK hB
  · obtain rfl := hx _ h
    exact rdDo_wait hI v K W F hR hE hK hB
theorem words_split (s : ByteArray) : ∃ x xs, wordsB s = x :: xs ∧ cutL 32 s.data.toList = x.data.toList :: wordsL xs := by
  have h1 := wordsB_cut s
  cases hw : wordsB s with
  | nil => have := wordsB_len s; rw [hw] at this; simp at this
  | cons x xs => rw [hw] at h1; exact ⟨x, xs, rfl, h1.symm⟩
theorem rdLine_bad {b : Nat} {s : ByteArray} (hs : s.size ≤ 100000) (h : readL s.data.toList = none) (K : Nat) (W : World) (hE : EnvR K W) (hK : K ≤ W.heap.size) :
    Calls Tryz.prog 35 #[deskV b, .string s] W fun e w' => e = .returned (.tuple #[.string ⟨#[]⟩, badV]) ∧ Below W.heap.size W w' := by
  obtain ⟨x, xs, hws, hcut⟩ := words_split s
  unfold readL at h
  rw [hcut] at h
  simp only at h
  cases hn : numsL (wordsL xs) with
  | none =>
    have hp : 0 < xs.length := by
      cases xs with
      | nil => cases hn
      | cons y ys => simp
    exact rdLine_none hs hws hp hn K W hE hK
  | some us =>
    have hz : xs = [] ∨ 0 < xs.length := by
      cases xs with
      | nil => exact .inl rfl
      | cons y ys => exact .inr (by simp)
    cases hw : wantsL x.data.toList with
    | none =>
      rcases hz with hz | hz
      · exact rdLine_unknown0 hs hws hz hn hw K W hE hK
      · exact rdLine_unknown hs hws hz hn hw K W hE hK
    | some m =>
      rw [hn, hw] at h
      simp only at h
      have hm : us.length ≠ m := fun e => by rw [if_pos e] at h; cases h
      rcases hz with hz | hz
      · exact rdLine_many0 hs hws hz hn hw hm K W hE hK
      · exact rdLine_many hs hws hz hn hw hm K W hE hK
theorem rdLine {B b : Nat} {A : Vals} {t : Nat} (hI : RI A t) (ht : t < 4000) {s : ByteArray} (hs : s.size ≤ 100000) {w : List UInt8} {n : List Nat} (h : readL s.data.toList = some (w, n)) (K : Nat) (W : World) (F : List Nat) (hR : RealAt W B b 50 A F) (hE : EnvR K W) (hK : K ≤ B) (hB : B ≤ W.heap.size) :
    Calls Tryz.prog 35 #[deskV b, .string s] W (DeskPost B b (doR A w n).2 F W (doR A w n).1) := by
  obtain ⟨x, xs, hws, hcut⟩ := words_split s
  unfold readL at h
  rw [hcut] at h
  simp only at h
  cases hn : numsL (wordsL xs) with
  | none => rw [hn] at h; cases hw : wantsL x.data.toList <;> rw [hw] at h <;> cases h
  | some us =>
    cases hw : wantsL x.data.toList with
    | none => rw [hw] at h; cases h
    | some m =>
      rw [hn, hw] at h
      simp only at h
      by_cases hm : us.length = m
      · rw [if_pos hm] at h
        obtain ⟨rfl, rfl⟩ := Prod.mk.inj (Option.some.inj h)
        rw [← hm] at hw
        have hdo := fun (v : Value) (W1 : World) (a1 : RealAt W1 B b 50 A F) (a2 : EnvR K W1) (a3 : B ≤ W1.heap.size) (a4 : NumsAt W1 v us) (a5 : ∀ g, v.ownBlock = some g → g ∉ F) => rdDo hI ht hw v K W1 F a1 a2 hK a3 a4 a5
        have hz : xs = [] ∨ 0 < xs.length := by
          cases xs with
          | nil => exact .inl rfl
          | cons y ys => exact .inr (by simp)
        rcases hz with hz | hz
        · exact rdLine_ok0 hs hws hz hn hw K W F hR hE hK hB hdo
        · exact rdLine_ok hs hws hz hn hw K W F hR hE hK hB hdo
      · rw [if_neg hm] at h; cases h
end Go.Proofs.YtlnghfmcofmkjaaGreatDoor

namespace Go.Proofs.YtlnghfmcofmkjaaGreatDoor
open Go.RowKit

theorem asBad_nil (t : Value) (w : World) : Calls Tryz.prog 36 #[errV 0, t] w fun e w' => e = .returned (.bool false) ∧ w = w' := as_nil t w
theorem asBad_missE {f : Int} (hf : f ≠ 0) (t : Addr) (w : World) (hg : ErrT w) :
    Calls Tryz.prog 36 #[errV f, .iface 97 (.pointer (some t))] w fun ev w' => ev = .returned (.bool false) ∧ Below w.heap.size w w' := by
  rw [errV_ne hf]; exact asBad_miss f t w hg
theorem as_hitE {f : Int} (hf : f ≠ 0) (b : Nat) (w : World) (hg : ErrT w) (ho : ObjAt w b 82 [.int .i64 0]) :
    Calls Tryz.prog 36 #[errV f, .iface 98 (.pointer (some ⟨b, 0, none⟩))] w fun ev w' => ev = .returned (.bool true) ∧ w'.cell? ⟨b, 0, none⟩ = some (.int .i64 f) ∧ Kept [b] w w' := by
  rw [errV_ne hf]
  refine (as_hit f ⟨b, 0, none⟩ _ w hg (ho.cell (i := 0) rfl) (ho.free 0)).mono ?_
  rintro e w' ⟨rfl, rfl⟩
  have h1 := (((ho.alloc (.cells #[.pointer (some ⟨b, 0, none⟩)] 98)).alloc (.cells #[.pointer (some ⟨11, 98, none⟩), .pointer (some ⟨w.heap.size, 0, none⟩), .int .u64 150] 126)).alloc (.cells #[.pointer (some ⟨11, 98, none⟩), .pointer (some ⟨w.heap.size, 0, none⟩), .int .u64 150] 126)).alloc (.cells #[.int .i64 f] 82)
  exact ⟨rfl, (h1.set 0 (.int .i64 f)).cell (i := 0) rfl, ((((((Kept.refl [b] w).alloc _).alloc _).alloc _).alloc _).setCell (.inl (by simp)) _)⟩
theorem as_hitB (b : Nat) (w : World) (hg : ErrT w) (ho : ObjAt w b 95 [.nilIface]) :
    Calls Tryz.prog 36 #[badV, .iface 97 (.pointer (some ⟨b, 0, none⟩))] w fun ev w' => ev = .returned (.bool true) ∧ Kept [b] w w' := by
  refine (asBad_hit _ ⟨b, 0, none⟩ _ w hg (ho.cell (i := 0) rfl) (ho.free 0)).mono ?_
  rintro e w' ⟨rfl, X, hX, rfl⟩
  exact ⟨rfl, (Kept.of_below hX _).setCell (.inl (by simp)) _⟩
/-- what a line is answered -/
def ansB (A : Vals) (s : ByteArray) : ByteArray := ⟨(lineR A s.data.toList).1.toArray⟩
/-- the contract of an answer -/
def AnsPost (B b : Nat) (A : Vals) (s : ByteArray) (F : List Nat) (W : World) (e : Ending) (w' : World) : Prop :=
  e = .returned (.string (ansB A s)) ∧ ∃ F', RealAt w' B b 50 (lineR A s.data.toList).2 F' ∧ SVst F F' W w'
set_option maxHeartbeats 4000000 in
theorem rdAnswer {B b : Nat} {A : Vals} {t : Nat} (hI : RI A t) (ht : t < 4000) {s : ByteArray} (hs : s.size ≤ 100000) (K : Nat) (W : World) (F : List Nat) (hR : RealAt W B b 50 A F) (hE : EnvR K W) (hK : K ≤ B) (hB : B ≤ W.heap.size) :
    Calls Tryz.prog 14 #[deskV b, .string s] W (AnsPost B b A s F W) := by
  have hKW : K ≤ W.heap.size := by omega
  cases hrd : readL s.data.toList with
  | none =>
    have hl : lineR A s.data.toList = (badW, A) := by unfold lineR; rw [hrd]
    have hfin : ∀ w', Below W.heap.size W w' → AnsPost B b A s F W (.returned (.string ⟨#[98, 97, 100]⟩)) w' := fun w' hb => by
      refine ⟨?_, ?_⟩
      · unfold ansB; rw [hl]; rfl
      · rw [hl]; exact ⟨F, hR.kept (Kept.of_below hb []) (by simp), SVst.of_below hb⟩
    have HF := hide hfin
    have LB := hide (fun W1 (hb : Below W.heap.size W W1) => rdLine_bad (b := b) hs hrd K W1 (hE.below hb hKW) (by have := hb.size; omega))
    have ET := hide (fun W1 (hb : Below W.heap.size W W1) => (hE.below hb hKW).et)
    clear hfin hl hrd hR hE hI
    unfold deskV at LB ⊢
    go_enter Tryz.func14, Tryz.ntmps14
    go_wp2_with fail
    refine (LB.out _ (by go_grown)).mono ?_
    rintro e w1 ⟨rfl, hb1⟩
    have hB1 : Below W.heap.size W w1 := Below.trans (by go_grown) (hb1.mono (by simp))
    have HB1 := hide hB1
    have hz1 := hB1.size
    clear hb1 hB1
    go_wp2_with fail
    obtain ⟨W2, hW2⟩ : ∃ W2, W2 = (w1.alloc (.cells #[.nilIface] 95)).alloc (.cells #[.int .i64 0] 82) := ⟨_, rfl⟩
    have ho2 : ObjAt W2 w1.heap.size 95 [.nilIface] := by rw [hW2]; exact (objNew rfl).alloc _
    have hb2 : Below W.heap.size W W2 := by rw [hW2]; exact (HB1.out.alloc hz1 _).alloc (by simp; omega) _
    rw [← hW2]
    refine (as_hitB w1.heap.size W2 (ET.out _ hb2) ho2).mono ?_
    rintro e w3 ⟨rfl, hk3⟩
    have HB3 := hide (hb2.trans (hk3.below hb2.size (fun x hx => by simp at hx; omega)))
    clear hW2 ho2 hb2 hk3
    go_wp2
    go_ret
    exact HF.out _ HB3.out
  | some wn =>
    obtain ⟨wd, ns⟩ := wn
    have hl : lineR A s.data.toList = doR A wd ns := by unfold lineR; rw [hrd]
    obtain ⟨C, hC⟩ : ∃ C, C = (doR A wd ns).2 := ⟨_, rfl⟩
    obtain ⟨ans, hans⟩ : ∃ ans, ans = (doR A wd ns).1 := ⟨_, rfl⟩
    have hfin : ∀ (F' : List Nat) (w1 w' : World) (x : ByteArray), x = ⟨ans.toArray⟩ → RealAt w1 B b 50 C F' → SVst F F' W w1 → Below w1.heap.size w1 w' → AnsPost B b A s F W (.returned (.string x)) w' := fun F' w1 w' x hx h1 h2 hb => by
      refine ⟨?_, ?_⟩
      · unfold ansB; rw [hl, hx, hans]
      · rw [hl, ← hC]; exact ⟨F', h1.kept (Kept.of_below hb []) (by simp), h2.post hb⟩
    have HF := hide hfin
    have hgo : DeskGo 35 #[deskV b, .string s] B b A C ans := fun K' W' F' h1 h2 h3 h4 => by rw [hC, hans]; exact rdLine hI ht hs hrd K' W' F' h1 h2 h3 h4
    have LN := hide (hgo.at hR hE hK hB)
    have ET := hide (fun (F' : List Nat) (W1 w1 : World) (hb : Below W.heap.size W W1) (hs2 : SVst F F' W1 w1) (X : World) (hX : Below w1.heap.size w1 X) => ((hE.below hb hKW).below ((hs2.1.below (B := B) (by have := hb.size; omega) (fun y hy => (hR.lt y hy).1)).trans (hX.mono (by have := hs2.1.size; have := hb.size; omega))) hK).et)
    clear hfin hl hrd hR hE hI hgo hC hans hs ht
    unfold deskV at LN ⊢
    go_enter Tryz.func14, Tryz.ntmps14
    go_wp2_with fail
    refine (LN.out _ (by go_grown)).mono ?_
    rintro e w1 ⟨⟨x, f, rfl, hf, ha⟩, F', hR2, hs2⟩
    have HT := hide (fun X hX => ET.out F' _ w1 (by go_grown) hs2 X hX)
    have HR := hide hR2
    have HS := hide (hs2.pre (by go_grown : Below W.heap.size W _))
    by_cases h0 : f = 0
    · subst h0
      have HA := hide (show x = ⟨ans.toArray⟩ by rw [ha, if_pos rfl])
      clear hR2 hs2 ha ET
      go_wp2_with (refine (asBad_nil _ _).mono ?_; rintro e w2 ⟨rfl, rfl⟩)
      go_ret
      exact HF.out F' w1 _ x HA.out HR.out HS.out (by go_grown)
    · have HA := hide (show nameB f = ⟨ans.toArray⟩ by rw [ha, if_neg h0]; rfl)
      have EE := hide (fun W => errnoError hf.1 hf.2 W)
      have H0 := hide h0
      clear hR2 hs2 ha ET hf h0
      go_wp2_with fail
      obtain ⟨W2, hW2⟩ : ∃ W2, W2 = (w1.alloc (.cells #[.nilIface] 95)).alloc (.cells #[.int .i64 0] 82) := ⟨_, rfl⟩
      have ho2 : ObjAt W2 (w1.heap.size + 1) 82 [.int .i64 0] := by rw [hW2]; exact objNew (by simp)
      have hb2 : Below w1.heap.size w1 W2 := by rw [hW2]; exact ((Below.refl _ _).alloc (Nat.le_refl _) _).alloc (by simp) _
      rw [← hW2]
      refine (asBad_missE H0.out _ W2 (HT.out _ hb2)).mono ?_
      rintro e w3 ⟨rfl, hb3⟩
      have hb23 : Below w1.heap.size w1 w3 := hb2.trans (hb3.mono hb2.size)
      have ho3 := ho2.below hb3
      have HB3 := hide hb23
      have HO3 := hide ho3
      clear hW2 hb2 hb3 hb23 ho2 ho3
      go_wp2_with fail
      refine (as_hitE H0.out _ w3 (HT.out _ HB3.out) HO3.out).mono ?_
      rintro e w4 ⟨rfl, hc4, hk4⟩
      have HB4 := hide (HB3.out.trans (hk4.below HB3.out.size (fun y hy => by simp at hy; omega)))
      clear hk4
      go_wp2_with fail
      refine (EE.out _).mono ?_
      rintro e w5 ⟨rfl, rfl⟩
      go_wp2
      go_ret
      exact HF.out F' w1 _ _ HA.out HR.out HS.out HB4.out
end Go.Proofs.YtlnghfmcofmkjaaGreatDoor

namespace Go.Proofs.YtlnghfmcofmkjaaGreatDoor
open Go.RowKit

/-- a line without its byte 10 -/
def trimL (l : List UInt8) : List UInt8 := if l.getLast? = some 10 then l.dropLast else l
theorem trimL_nl (a : List UInt8) : trimL (a ++ [10]) = a := by simp [trimL]
theorem trimL_no {a : List UInt8} (h : ∀ c ∈ a, c ≠ 10) : trimL a = a := by
  unfold trimL
  rw [if_neg]
  intro e
  exact h 10 (List.mem_of_getLast? e) rfl
/-- a text's lines -/
def textL (t : List UInt8) : List (List UInt8) := (linesL t).map trimL
def tooW : List UInt8 := [116, 111, 111, 32, 108, 111, 110, 103, 10]
/-- the answers to a text -/
def runL (t : List UInt8) : List UInt8 := if 3000 < t.length then tooW else linesR firstV (textL t)
theorem textL_line {a r : List UInt8} (h : ∀ c ∈ a, c ≠ 10) : textL (a ++ 10 :: r) = a :: textL r := by
  unfold textL
  rw [linesL_line _ _ h, List.map_cons, trimL_nl]
theorem textL_last {a : List UInt8} (h : ∀ c ∈ a, c ≠ 10) (hn : a ≠ []) : textL a = [a] := by
  unfold textL
  rw [linesL_last _ h hn, List.map_cons, trimL_no h]; rfl
/-- the lines are what the text is cut into, but for an empty end -/
theorem text_cut : ∀ (n : Nat) (t : List UInt8), t.length ≤ n → (cutL 10 t = textL t ++ [[]] ∨ (cutL 10 t = textL t ∧ (textL t).getLast? ≠ some [] ∧ textL t ≠ [])) := by
  intro n
  induction n with
  | zero =>
    intro t ht
    have : t = [] := List.length_eq_zero_iff.1 (by omega)
    subst this
    exact .inl rfl
  | succ n ih =>
    intro t ht
    rcases cut_at 10 t with h | ⟨a, r, rfl, h⟩
    · by_cases hn : t = []
      · subst hn; exact .inl rfl
      · rw [cutL_none h, textL_last h hn]
        exact .inr ⟨rfl, by simpa using hn, by simp⟩
    · rw [cutL_some h, textL_line h]
      rcases ih r (by simp at ht; omega) with h1 | ⟨h1, h2, h3⟩
      · exact .inl (by rw [h1]; rfl)
      · refine .inr ⟨by rw [h1], ?_, by simp⟩
        rw [List.getLast?_cons_of_ne_nil h3]
        exact h2
theorem linesR_app (l m : List (List UInt8)) : ∀ A, linesR A (l ++ m) = linesR A l ++ linesR (linesV A l) m := by
  induction l with
  | nil => intro A; rfl
  | cons x l ih => intro A; simp [linesR, linesV, ih]
theorem linesV_app (l m : List (List UInt8)) : ∀ A, linesV A (l ++ m) = linesV (linesV A l) m := by
  induction l with
  | nil => intro A; rfl
  | cons x l ih => intro A; exact ih _
theorem textL_app : ∀ (n : Nat) (x r : List UInt8), x.length ≤ n → (x = [] ∨ x.getLast? = some 10) → textL (x ++ r) = textL x ++ textL r := by
  intro n
  induction n with
  | zero =>
    intro x r hx _
    have : x = [] := List.length_eq_zero_iff.1 (by omega)
    subst this
    rfl
  | succ n ih =>
    intro x r hx h
    rcases h with rfl | h
    · rfl
    · rcases cut_at 10 x with h1 | ⟨a, b, rfl, h1⟩
      · exact absurd rfl (h1 10 (List.mem_of_getLast? h))
      · rw [List.append_assoc, List.cons_append, textL_line h1, textL_line h1, ih b r (by simp at hx; omega)]
        · rfl
        · cases b with
          | nil => exact .inl rfl
          | cons y b => exact .inr (by
            have e : (a ++ 10 :: y :: b).getLast? = (y :: b).getLast? := by simp [List.getLast?_append, List.getLast?_cons]
            rwa [e] at h)
/-- the answers to a beginning are a beginning of the answers -/
theorem runL_begin {t : List UInt8} (ht : t.length ≤ 3000) {k : Nat} (hk : k = 0 ∨ t.length ≤ k ∨ (1 ≤ k ∧ t[k - 1]? = some 10)) : ∃ r, runL t = runL (t.take k) ++ r := by
  have hle : (t.take k).length ≤ 3000 := by rw [List.length_take]; omega
  by_cases hge : t.length ≤ k
  · exact ⟨[], by rw [List.take_of_length_le hge]; simp⟩
  · unfold runL
    rw [if_neg (by omega), if_neg (by omega)]
    have e : textL t = textL (t.take k) ++ textL (t.drop k) := by
      have h1 := textL_app _ (t.take k) (t.drop k) (Nat.le_refl _) (by
        rcases hk with rfl | h | ⟨h1, h2⟩
        · exact .inl rfl
        · omega
        · refine .inr ?_
          rw [List.getLast?_eq_getElem?, List.length_take, Nat.min_eq_left (by omega), List.getElem?_take, if_pos (by omega)]
          exact h2)
      rwa [List.take_append_drop] at h1
    exact ⟨_, by rw [e, linesR_app]⟩
/-- the session that is given -/
def factT : List UInt8 := [104, 101, 108, 108, 111, 32, 51, 32, 53, 10, 119, 97, 105, 116, 105, 110, 103, 10, 112, 117, 108, 108, 10, 112, 117, 108, 108, 10, 102, 108, 121, 10, 116, 117, 114, 110, 10, 99, 114, 97, 115, 104, 10, 104, 101, 108, 108, 111, 32, 51, 10, 119, 97, 105, 116, 105, 110, 103, 10]
def factW : List UInt8 := [119, 101, 108, 99, 111, 109, 101, 32, 50, 49, 56, 52, 53, 10, 49, 10, 50, 49, 56, 52, 53, 10, 69, 114, 114, 78, 111, 110, 101, 10, 98, 97, 100, 10, 111, 107, 10, 111, 107, 10, 98, 97, 100, 10, 48, 10]
theorem fact_run : runL factT = factW := by decide +kernel
/-- a hello at a time that is none -/
theorem range_run : runL [104, 101, 108, 108, 111, 32, 51, 32, 57, 57, 57, 57, 57, 57, 10] = [69, 114, 114, 82, 97, 110, 103, 101, 10] := by decide +kernel
end Go.Proofs.YtlnghfmcofmkjaaGreatDoor
