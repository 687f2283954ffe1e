/- run: the desk's answer by contract. A session's text, plainly: its lines; the answers to a beginning; who comes again. A strings.Builder of the call's own: WriteString by contract, with which blocks turn. -/
import Derived.Test.YtlnghfmcofmkjaaGreatDoorRunAnswersProofM41
import Derived.Test.YtlnghfmcofmkjaaGreatDoorRunAnswersProofM36
import Derived.Test.YtlnghfmcofmkjaaGreatDoorRunAnswersProofM34
import Derived.Test.YtlnghfmcofmkjaaGreatDoorShRun
import Derived.Lib.OthersKept
import Derived.BigCall
import Derived.BigGuard
namespace Go.Proofs.YtlnghfmcofmkjaaGreatDoor
open Go.RowKit

theorem asBad_nil (t : Value) (w : World) : Calls Tryz.prog 36 #[errV 0, t] w fun e w' => e = .returned (.bool false) ∧ w = w' := as_nil t w
theorem asBad_missE {f : Int} (hf : f ≠ 0) (t : Addr) (w : World) (hg : ErrT w) :
    Calls Tryz.prog 36 #[errV f, .iface 97 (.pointer (some t))] w fun ev w' => ev = .returned (.bool false) ∧ Below w.heap.size w w' := by
  rw [errV_ne hf]; exact asBad_miss f t w hg
theorem as_hitE {f : Int} (hf : f ≠ 0) (b : Nat) (w : World) (hg : ErrT w) (ho : ObjAt w b 82 [.int .i64 0]) :
    Calls Tryz.prog 36 #[errV f, .iface 98 (.pointer (some ⟨b, 0, none⟩))] w fun ev w' => ev = .returned (.bool true) ∧ w'.cell? ⟨b, 0, none⟩ = some (.int .i64 f) ∧ Kept [b] w w' := by
  rw [errV_ne hf]
  refine (as_hit f ⟨b, 0, none⟩ _ w hg (ho.cell (i := 0) rfl) (ho.free 0)).mono ?_
  rintro e w' ⟨rfl, rfl⟩
  have h1 := (((ho.alloc (.cells #[.pointer (some ⟨b, 0, none⟩)] 98)).alloc (.cells #[.pointer (some ⟨11, 98, none⟩), .pointer (some ⟨w.heap.size, 0, none⟩), .int .u64 150] 126)).alloc (.cells #[.pointer (some ⟨11, 98, none⟩), .pointer (some ⟨w.heap.size, 0, none⟩), .int .u64 150] 126)).alloc (.cells #[.int .i64 f] 82)
  exact ⟨rfl, (h1.set 0 (.int .i64 f)).cell (i := 0) rfl, ((((((Kept.refl [b] w).alloc _).alloc _).alloc _).alloc _).setCell (.inl (by simp)) _)⟩
theorem as_hitB (b : Nat) (w : World) (hg : ErrT w) (ho : ObjAt w b 95 [.nilIface]) :
    Calls Tryz.prog 36 #[badV, .iface 97 (.pointer (some ⟨b, 0, none⟩))] w fun ev w' => ev = .returned (.bool true) ∧ Kept [b] w w' := by
  refine (asBad_hit _ ⟨b, 0, none⟩ _ w hg (ho.cell (i := 0) rfl) (ho.free 0)).mono ?_
  rintro e w' ⟨rfl, X, hX, rfl⟩
  exact ⟨rfl, (Kept.of_below hX _).setCell (.inl (by simp)) _⟩
/-- what a line is answered -/
def ansB (A : Vals) (s : ByteArray) : ByteArray := ⟨(lineR A s.data.toList).1.toArray⟩
/-- the contract of an answer -/
def AnsPost (B b : Nat) (A : Vals) (s : ByteArray) (F : List Nat) (W : World) (e : Ending) (w' : World) : Prop :=
  e = .returned (.string (ansB A s)) ∧ ∃ F', RealAt w' B b 50 (lineR A s.data.toList).2 F' ∧ SVst F F' W w'
set_option maxHeartbeats 4000000 in
theorem rdAnswer {B b : Nat} {A : Vals} {t : Nat} (hI : RI A t) (ht : t < 4000) {s : ByteArray} (hs : s.size ≤ 100000) (K : Nat) (W : World) (F : List Nat) (hR : RealAt W B b 50 A F) (hE : EnvR K W) (hK : K ≤ B) (hB : B ≤ W.heap.size) :
    Calls Tryz.prog 14 #[deskV b, .string s] W (AnsPost B b A s F W) := by
  have hKW : K ≤ W.heap.size := by omega
  cases hrd : readL s.data.toList with
  | none =>
    have hl : lineR A s.data.toList = (badW, A) := by unfold lineR; rw [hrd]
    have hfin : ∀ w', Below W.heap.size W w' → AnsPost B b A s F W (.returned (.string ⟨#[98, 97, 100]⟩)) w' := fun w' hb => by
      refine ⟨?_, ?_⟩
      · unfold ansB; rw [hl]; rfl
      · rw [hl]; exact ⟨F, hR.kept (Kept.of_below hb []) (by simp), SVst.of_below hb⟩
    have HF := hide hfin
    have LB := hide (fun W1 (hb : Below W.heap.size W W1) => rdLine_bad (b := b) hs hrd K W1 (hE.below hb hKW) (by have := hb.size; omega))
    have ET := hide (fun W1 (hb : Below W.heap.size W W1) => (hE.below hb hKW).et)
    clear hfin hl hrd hR hE hI
    unfold deskV at LB ⊢
    go_enter Tryz.func14, Tryz.ntmps14
    go_wp2_with fail
    refine (LB.out _ (by go_grown)).mono ?_
    rintro e w1 ⟨rfl, hb1⟩
    have hB1 : Below W.heap.size W w1 := Below.trans (by go_grown) (hb1.mono (by simp))
    have HB1 := hide hB1
    have hz1 := hB1.size
    clear hb1 hB1
    go_wp2_with fail
    obtain ⟨W2, hW2⟩ : ∃ W2, W2 = (w1.alloc (.cells #[.nilIface] 95)).alloc (.cells #[.int .i64 0] 82) := ⟨_, rfl⟩
    have ho2 : ObjAt W2 w1.heap.size 95 [.nilIface] := by rw [hW2]; exact (objNew rfl).alloc _
    have hb2 : Below W.heap.size W W2 := by rw [hW2]; exact (HB1.out.alloc hz1 _).alloc (by simp; omega) _
    rw [← hW2]
    refine (as_hitB w1.heap.size W2 (ET.out _ hb2) ho2).mono ?_
    rintro e w3 ⟨rfl, hk3⟩
    have HB3 := hide (hb2.trans (hk3.below hb2.size (fun x hx => by simp at hx; omega)))
    clear hW2 ho2 hb2 hk3
    go_wp2
    go_ret
    exact HF.out _ HB3.out
  | some wn =>
    obtain ⟨wd, ns⟩ := wn
    have hl : lineR A s.data.toList = doR A wd ns := by unfold lineR; rw [hrd]
    obtain ⟨C, hC⟩ : ∃ C, C = (doR A wd ns).2 := ⟨_, rfl⟩
    obtain ⟨ans, hans⟩ : ∃ ans, ans = (doR A wd ns).1 := ⟨_, rfl⟩
    have hfin : ∀ (F' : List Nat) (w1 w' : World) (x : ByteArray), x = ⟨ans.toArray⟩ → RealAt w1 B b 50 C F' → SVst F F' W w1 → Below w1.heap.size w1 w' → AnsPost B b A s F W (.returned (.string x)) w' := fun F' w1 w' x hx h1 h2 hb => by
      refine ⟨?_, ?_⟩
      · unfold ansB; rw [hl, hx, hans]
      · rw [hl, ← hC]; exact ⟨F', h1.kept (Kept.of_below hb []) (by simp), h2.post hb⟩
    have HF := hide hfin
    have hgo : DeskGo 35 #[deskV b, .string s] B b A C ans := fun K' W' F' h1 h2 h3 h4 => by rw [hC, hans]; exact rdLine hI ht hs hrd K' W' F' h1 h2 h3 h4
    have LN := hide (hgo.at hR hE hK hB)
    have ET := hide (fun (F' : List Nat) (W1 w1 : World) (hb : Below W.heap.size W W1) (hs2 : SVst F F' W1 w1) (X : World) (hX : Below w1.heap.size w1 X) => ((hE.below hb hKW).below ((hs2.1.below (B := B) (by have := hb.size; omega) (fun y hy => (hR.lt y hy).1)).trans (hX.mono (by have := hs2.1.size; have := hb.size; omega))) hK).et)
    clear hfin hl hrd hR hE hI hgo hC hans hs ht
    unfold deskV at LN ⊢
    go_enter Tryz.func14, Tryz.ntmps14
    go_wp2_with fail
    refine (LN.out _ (by go_grown)).mono ?_
    rintro e w1 ⟨⟨x, f, rfl, hf, ha⟩, F', hR2, hs2⟩
    have HT := hide (fun X hX => ET.out F' _ w1 (by go_grown) hs2 X hX)
    have HR := hide hR2
    have HS := hide (hs2.pre (by go_grown : Below W.heap.size W _))
    by_cases h0 : f = 0
    · subst h0
      have HA := hide (show x = ⟨ans.toArray⟩ by rw [ha, if_pos rfl])
      clear hR2 hs2 ha ET
      go_wp2_with (refine (asBad_nil _ _).mono ?_; rintro e w2 ⟨rfl, rfl⟩)
      go_ret
      exact HF.out F' w1 _ x HA.out HR.out HS.out (by go_grown)
    · have HA := hide (show nameB f = ⟨ans.toArray⟩ by rw [ha, if_neg h0]; rfl)
      have EE := hide (fun W => errnoError hf.1 hf.2 W)
      have H0 := hide h0
      clear hR2 hs2 ha ET hf h0
      go_wp2_with fail
      obtain ⟨W2, hW2⟩ : ∃ W2, W2 = (w1.alloc (.cells #[.nilIface] 95)).alloc (.cells #[.int .i64 0] 82) := ⟨_, rfl⟩
      have ho2 : ObjAt W2 (w1.heap.size + 1) 82 [.int .i64 0] := by rw [hW2]; exact objNew (by simp)
      have hb2 : Below w1.heap.size w1 W2 := by rw [hW2]; exact ((Below.refl _ _).alloc (Nat.le_refl _) _).alloc (by simp) _
      rw [← hW2]
      refine (asBad_missE H0.out _ W2 (HT.out _ hb2)).mono ?_
      rintro e w3 ⟨rfl, hb3⟩
      have hb23 : Below w1.heap.size w1 w3 := hb2.trans (hb3.mono hb2.size)
      have ho3 := ho2.below hb3
      have HB3 := hide hb23
      have HO3 := hide ho3
      clear hW2 hb2 hb3 hb23 ho2 ho3
      go_wp2_with fail
      refine (as_hitE H0.out _ w3 (HT.out _ HB3.out) HO3.out).mono ?_
      rintro e w4 ⟨rfl, hc4, hk4⟩
      have HB4 := hide (HB3.out.trans (hk4.below HB3.out.size (fun y hy => by simp at hy; omega)))
      clear hk4
      go_wp2_with fail
      refine (EE.out _).mono ?_
      rintro e w5 ⟨rfl, rfl⟩
      go_wp2
      go_ret
      exact HF.out F' w1 _ _ HA.out HR.out HS.out HB4.out
end Go.Proofs.YtlnghfmcofmkjaaGreatDoor

namespace Go.Proofs.YtlnghfmcofmkjaaGreatDoor
open Go.RowKit

/-- a line without its byte 10 -/
def trimL (l : List UInt8) : List UInt8 := if l.getLast? = some 10 then l.dropLast else l
theorem trimL_nl (a : List UInt8) : trimL (a ++ [10]) = a := by simp [trimL]
theorem trimL_no {a : List UInt8} (h : ∀ c ∈ a, c ≠ 10) : trimL a = a := by
  unfold trimL
  rw [if_neg]
  intro e
  exact h 10 (List.mem_of_getLast? e) rfl
/-- a text's lines -/
def textL (t : List UInt8) : List (List UInt8) := (linesL t).map trimL
def tooW : List UInt8 := [116, 111, 111, 32, 108, 111, 110, 103, 10]
/-- the answers to a text -/
def runL (t : List UInt8) : List UInt8 := if 3000 < t.length then tooW else linesR firstV (textL t)
theorem textL_line {a r : List UInt8} (h : ∀ c ∈ a, c ≠ 10) : textL (a ++ 10 :: r) = a :: textL r := by
  unfold textL
  rw [linesL_line _ _ h, List.map_cons, trimL_nl]
theorem textL_last {a : List UInt8} (h : ∀ c ∈ a, c ≠ 10) (hn : a ≠ []) : textL a = [a] := by
  unfold textL
  rw [linesL_last _ h hn, List.map_cons, trimL_no h]; rfl
/-- the lines are what the text is cut into, but for an empty end -/
theorem text_cut : ∀ (n : Nat) (t : List UInt8), t.length ≤ n → (cutL 10 t = textL t ++ [[]] ∨ (cutL 10 t = textL t ∧ (textL t).getLast? ≠ some [] ∧ textL t ≠ [])) := by
  intro n
  induction n with
  | zero =>
    intro t ht
    have : t = [] := List.length_eq_zero_iff.1 (by omega)
    subst this
    exact .inl rfl
  | succ n ih =>
    intro t ht
    rcases cut_at 10 t with h | ⟨a, r, rfl, h⟩
    · by_cases hn : t = []
      · subst hn; exact .inl rfl
      · rw [cutL_none h, textL_last h hn]
        exact .inr ⟨rfl, by simpa using hn, by simp⟩
    · rw [cutL_some h, textL_line h]
      rcases ih r (by simp at ht; omega) with h1 | ⟨h1, h2, h3⟩
      · exact .inl (by rw [h1]; rfl)
      · refine .inr ⟨by rw [h1], ?_, by simp⟩
        rw [List.getLast?_cons_of_ne_nil h3]
        exact h2
theorem linesR_app (l m : List (List UInt8)) : ∀ A, linesR A (l ++ m) = linesR A l ++ linesR (linesV A l) m := by
  induction l with
  | nil => intro A; rfl
  | cons x l ih => intro A; simp [linesR, linesV, ih]
theorem linesV_app (l m : List (List UInt8)) : ∀ A, linesV A (l ++ m) = linesV (linesV A l) m := by
  induction l with
  | nil => intro A; rfl
  | cons x l ih => intro A; exact ih _
theorem textL_app : ∀ (n : Nat) (x r : List UInt8), x.length ≤ n → (x = [] ∨ x.getLast? = some 10) → textL (x ++ r) = textL x ++ textL r := by
  intro n
  induction n with
  | zero =>
    intro x r hx _
    have : x = [] := List.length_eq_zero_iff.1 (by omega)
    subst this
    rfl
  | succ n ih =>
    intro x r hx h
    rcases h with rfl | h
    · rfl
    · rcases cut_at 10 x with h1 | ⟨a, b, rfl, h1⟩
      · exact absurd rfl (h1 10 (List.mem_of_getLast? h))
      · rw [List.append_assoc, List.cons_append, textL_line h1, textL_line h1, ih b r (by simp at hx; omega)]
        · rfl
        · cases b with
          | nil => exact .inl rfl
          | cons y b => exact .inr (by
            have e : (a ++ 10 :: y :: b).getLast? = (y :: b).getLast? := by simp [List.getLast?_append, List.getLast?_cons]
            rwa [e] at h)
/-- the answers to a beginning are a beginning of the answers -/
theorem runL_begin {t : List UInt8} (ht : t.length ≤ 3000) {k : Nat} (hk : k = 0 ∨ t.length ≤ k ∨ (1 ≤ k ∧ t[k - 1]? = some 10)) : ∃ r, runL t = runL (t.take k) ++ r := by
  have hle : (t.take k).length ≤ 3000 := by rw [List.length_take]; omega
  by_cases hge : t.length ≤ k
  · exact ⟨[], by rw [List.take_of_length_le hge]; simp⟩
  · unfold runL
    rw [if_neg (by omega), if_neg (by omega)]
    have e : textL t = textL (t.take k) ++ textL (t.drop k) := by
      have h1 := textL_app _ (t.take k) (t.drop k) (Nat.le_refl _) (by
        rcases hk with rfl | h | ⟨h1, h2⟩
        · exact .inl rfl
        · omega
        · refine .inr ?_
          rw [List.getLast?_eq_getElem?, List.length_take, Nat.min_eq_left (by omega), List.getElem?_take, if_pos (by omega)]
          exact h2)
      rwa [List.take_append_drop] at h1
    exact ⟨_, by rw [e, linesR_app]⟩
/-- the session that is given -/
def factT : List UInt8 := [104, 101, 108, 108, 111, 32, 51, 32, 53, 10, 119, 97, 105, 116, 105, 110, 103, 10, 112, 117, 108, 108, 10, 112, 117, 108, 108, 10, 102, 108, 121, 10, 116, 117, 114, 110, 10, 99, 114, 97, 115, 104, 10, 104, 101, 108, 108, 111, 32, 51, 10, 119, 97, 105, 116, 105, 110, 103, 10]
def factW : List UInt8 := [119, 101, 108, 99, 111, 109, 101, 32, 50, 49, 56, 52, 53, 10, 49, 10, 50, 49, 56, 52, 53, 10, 69, 114, 114, 78, 111, 110, 101, 10, 98, 97, 100, 10, 111, 107, 10, 111, 107, 10, 98, 97, 100, 10, 48, 10]
theorem fact_run : runL factT = factW := by decide +kernel
/-- a hello at a time that is none -/
theorem range_run : runL [104, 101, 108, 108, 111, 32, 51, 32, 57, 57, 57, 57, 57, 57, 10] = [69, 114, 114, 82, 97, 110, 103, 101, 10] := by decide +kernel
end Go.Proofs.YtlnghfmcofmkjaaGreatDoor

namespace Go.Proofs.YtlnghfmcofmkjaaGreatDoor
open Go.RowKit Go.Shelf

theorem app_where {P : Program} {w : World} (t u ty e : TypeId) (i : TypeInfo) (ht : P.underlying t = some (.slice e)) (hu : P.underlying u = some .string) (hi : P.info? e = some i) (hz : i.zero = some (.int .u8 0))
    (hsize : i.size = 1) (hby : i.bytes = 1) (base : Nat) (v : Value) (n : Nat) (xs : List Value) (hown : w.ownsRowF base e 1 v n xs) (s : ByteArray)
    (h63 : n + s.size ≤ maxLen) (hbytes : n + s.size ≤ 140737488355328) {v' : Value} {w' : World} (hr : (Builtin.append_ #[t, u] ty #[v, .string s]).run P w = .ok v' w') :
    v'.ownBlock = v.ownBlock ∨ ∃ g, v'.ownBlock = some g ∧ w.heap.size ≤ g := by
  rcases hown.2 with ⟨rfl, rfl⟩ | ⟨g, cap, cur, fz, rfl, hbg, hg, hfz, hnc, hcm, hcs, htake⟩
  · obtain ⟨v2, w2, h1, h2, _, _⟩ := Lib.run_append_own_stringF (P := P) w w.heap.size t u ty e i ht hu hi hz hsize hby (.slice none 0 0) 0 xs ⟨hown.1, .inl ⟨rfl, rfl⟩⟩ s h63 hbytes (Nat.le_refl _)
    rw [hr] at h1
    obtain ⟨rfl, rfl⟩ : v' = v2 ∧ w' = w2 := by injection h1 with h3 h4; exact ⟨h3, h4⟩
    cases hv : v'.ownBlock with
    | none => exact .inl rfl
    | some g => exact .inr ⟨g, rfl, (h2.lt g hv).1⟩
  · have hxl : xs.length = n := by simpa using hown.1
    by_cases hroom : n + s.size ≤ cap
    · have hcs' : cur.size = cap := by simpa using hcs
      have h1 := Lib.run_append_room_stringF (P := P) w t u ty e i ht hu hi hsize g n cap cur fz hg (by simpa using hfz) s hroom (by omega)
      rw [hr] at h1
      injection h1 with h3 h4
      exact .inl (by rw [h3]; rfl)
    · have holds : ∀ j u, xs[j]? = some u → w.cell? ((⟨g, 0, none⟩ : Addr).add j) = some u := hown.cells (g := g) rfl
      have h1 := Lib.run_append_grow_string (P := P) w t u ty e i (.int .u8 0) ht hu hi hz ⟨g, 0, none⟩ n cap xs (by rw [hsize]; simpa using hxl) holds s (by omega) (by simp only [maxLen] at h63; omega) (by rw [hby]; exact growslice_fits (by omega) (by omega))
      rw [hr] at h1
      injection h1 with h3 h4
      exact .inr ⟨w.heap.size, by rw [h3]; rfl, Nat.le_refl _⟩
theorem wpList_append_text {P : Program} {w : World} {ops : Array Oper} {rest : List Oper} {o : Oper} {a : Act} {Q : Exit → Act → World → Prop} (hgd : o.guard = none) (sl x : Operand) (t u : TypeId)
    (ho : o.op = .call { callee := .builtin .append, args := #[sl, x], argTypes := #[t, u] })
    (base : Nat) (e : TypeId) (i : TypeInfo) (ht : P.underlying t = some (.slice e)) (hu : P.underlying u = some .string) (hi : P.info? e = some i) (hz : i.zero = some (.int .u8 0))
    (hsize : i.size = 1) (hby : i.bytes = 1)
    (v : Value) (n : Nat) (xs : List Value) (hs : a.eval sl = v) (hown : w.ownsRowF base e 1 v n xs) (s : ByteArray) (hx : a.eval x = .string s)
    (h63 : n + s.size ≤ maxLen) (hbytes : n + s.size ≤ 140737488355328) (hbase : base ≤ w.heap.size)
    (h : ∀ v' w', w'.ownsRowF base e 1 v' (n + s.size) (xs ++ Lib.strCells s) → w.grownBy w' v.ownBlock → (v'.ownBlock = v.ownBlock ∨ ∃ g, v'.ownBlock = some g ∧ w.heap.size ≤ g) → wpList P ops Q rest (a.put o.dst v') w') : wpList P ops Q (o :: rest) a w := by
  refine wpList_plain hgd fun K hK => ?_
  obtain ⟨v', w', hr, h2, h3, _⟩ := Lib.run_append_own_stringF (P := P) w base t u o.type e i ht hu hi hz hsize hby v n xs hown s h63 hbytes hbase
  have h5 := app_where t u o.type e i ht hu hi hz hsize hby base v n xs hown s h63 hbytes hr
  unfold Oper.wp execOp
  simp only [ho, resolve, invoke, builtin, Sem.run_bind, Sem.run_pure, Result.andThen_ok, List.map_toArray, List.map_cons, List.map_nil, hs, hx, hr]
  exact hK _ _ (h v' w' h2 h3 h5)
/-- the builder at b holds the bytes l in the row of v -/
structure BW (w : World) (b : Nat) (v : Value) (l : List UInt8) : Prop where
  hd : ∃ p, (p = .pointer none ∨ p = .pointer (some ⟨b, 0, none⟩)) ∧ ObjAt w b 41 [p, v]
  own : w.ownsRowF b 5 1 v l.length (Lib.byteCells l)
  ne : v.ownBlock ≠ some b
/-- the blocks of a builder -/
def bwF (b : Nat) (v : Value) : List Nat := b :: v.ownBlock.toList
theorem mem_bwF {b x : Nat} {v : Value} : x ∈ bwF b v ↔ x = b ∨ v.ownBlock = some x := by
  unfold bwF
  cases v.ownBlock <;> simp [eq_comm]
theorem BW.lt {w : World} {b : Nat} {v : Value} {l : List UInt8} (h : BW w b v l) : ∀ x ∈ bwF b v, b ≤ x ∧ x < w.heap.size := by
  intro x hx
  obtain ⟨p, _, ho⟩ := h.hd
  rcases mem_bwF.1 hx with rfl | hx
  · exact ⟨Nat.le_refl _, ho.lt⟩
  · exact h.own.lt x hx
theorem BW.kept {S : List Nat} {w w' : World} {b : Nat} {v : Value} {l : List UInt8} (h : BW w b v l) (hk : Kept S w w') (hn : ∀ x ∈ bwF b v, x ∉ S) : BW w' b v l := by
  obtain ⟨p, hp, ho⟩ := h.hd
  refine ⟨⟨p, hp, hk.obj ho (hn b (mem_bwF.2 (.inl rfl)))⟩, ⟨h.own.1, ?_⟩, h.ne⟩
  rcases h.own.2 with h1 | ⟨g, cap, cur, fz, rfl, hb, hg, rest⟩
  · exact .inl h1
  · exact .inr ⟨g, cap, cur, fz, rfl, hb, (hk.block g (Array.getElem?_eq_some_iff.1 hg).1 (hn g (mem_bwF.2 (.inr rfl)))).trans hg, rest⟩
theorem BW.isB {w : World} {b : Nat} {v : Value} {l : List UInt8} (h : BW w b v l) : Lib.IsBuilderF 41 5 b b (Lib.byteCells l) w := by
  obtain ⟨p, hp, ho⟩ := h.hd
  have h1 : Lib.BuilderAtF 41 5 b b p (Lib.byteCells l) w := ⟨Nat.le_refl _, v, ho, by rw [Lib.byteCells_length]; exact h.own, h.ne⟩
  rcases hp with rfl | rfl
  · exact .inl h1
  · exact .inr h1
theorem BW.new (w : World) : BW (w.alloc (.cells #[.pointer none, .slice none 0 0] 41)) w.heap.size (.slice none 0 0) [] :=
  ⟨⟨_, .inl rfl, ObjAt.new w _ [.pointer none, .slice none 0 0]⟩, World.ownsRowF_nil _ _ _ _, by simp [Value.ownBlock]⟩
theorem bwCopy {b : Nat} {v : Value} {l : List UInt8} (w : World) (h : BW w b v l) : Calls Tryz.prog 34 #[.pointer (some ⟨b, 0, none⟩)] w fun e w' => e = .returned (.tuple #[]) ∧ ObjAt w' b 41 [.pointer (some ⟨b, 0, none⟩), v] ∧ Kept [b] w w' := by
  obtain ⟨p, rfl | rfl, ho⟩ := h.hd
  · refine (Any.Builder_copyCheck_fresh (P := Tryz.prog) (ρ := Tryz.lays156_ren) { Tryz.lays156 with } Tryz.Builder_Extra_156.toX72 b w (ho.cell (i := 0) rfl) ?_ (ho.free 0)).mono ?_
    · have ho' : w.heap[b]? = some (.cells #[.pointer none, v] 41 (0, 0)) := ho
      simp [World.shape?, ho']
      rfl
    · rintro e w' ⟨rfl, rfl⟩
      exact ⟨rfl, ho.set 0 _, (Kept.refl _ _).setCell (.inl (by simp)) _⟩
  · refine (Any.Builder_copyCheck_used (P := Tryz.prog) (ρ := Tryz.lays156_ren) { Tryz.lays156 with } Tryz.Builder_Extra_156.toX72 b w (ho.cell (i := 0) rfl)).mono ?_
    rintro e w' ⟨rfl, rfl⟩
    exact ⟨rfl, ho, Kept.refl _ _⟩
theorem Tryz.infoByte : (Tryz.prog.info? 5).map (fun i => (i.zero, i.size, i.bytes)) = some (some (.int .u8 0), 1, 1) := by kernel_rfl
set_option maxRecDepth 100000 in
set_option maxHeartbeats 2000000 in
theorem bwWrite {b : Nat} {v : Value} {l : List UInt8} (s : ByteArray) (hl : l.length + s.size ≤ 140737488355328) (w : World) (h : BW w b v l) :
    Calls Tryz.prog 13 #[.pointer (some ⟨b, 0, none⟩), .string s] w fun e w' => e = .returned (.tuple #[.int .i64 s.size, .nilIface]) ∧ ∃ v', BW w' b v' (l ++ s.data.toList) ∧ Kept (bwF b v) w w' ∧ (v'.ownBlock = v.ownBlock ∨ ∃ g, v'.ownBlock = some g ∧ w.heap.size ≤ g) := by
  obtain ⟨i0, hi, hz0, hz1, hz2⟩ := info_parts Tryz.infoByte
  have Hi0 := hide hi
  have Hz0 := hide hz0
  have Hz1 := hide hz1
  have Hz2 := hide hz2
  have CC := hide (bwCopy w h)
  have HB := hide h
  have HL := hide hl
  clear hi hz0 hz1 hz2 h hl
  go_enter Tryz.func13, Tryz.ntmps13
  go_wp2_with fail
  refine CC.out.mono ?_
  rintro e w1 ⟨rfl, ho1, hk1⟩
  have hown1 : w1.ownsRowF b 5 1 v l.length (Lib.byteCells l) := by
    refine ⟨HB.out.own.1, ?_⟩
    rcases HB.out.own.2 with h1 | ⟨g, cap, cur, fz, hv, hb, hg, rest⟩
    · exact .inl h1
    · exact .inr ⟨g, cap, cur, fz, hv, hb, (hk1.block g (Array.getElem?_eq_some_iff.1 hg).1 (fun hm => by simp at hm; exact HB.out.ne (by rw [hv, hm]; rfl))).trans hg, rest⟩
  have c0 := ho1.cell (i := 0) rfl
  have c1 := ho1.cell (i := 1) rfl
  have HO1 := hide ho1
  have HK1 := hide hk1
  have HW1 := hide hown1
  clear ho1 hk1 hown1
  go_wp2_with (at_builtin; refine wpList_append_text rfl _ _ 39 9 rfl b 5 i0 Tryz.underlying39 Tryz.underlying9 Hi0.out Hz0.out Hz1.out Hz2.out _ _ _ rfl HW1.out s rfl ?c3 ?c4 ?c5 ?_)
  case c3 => have := HL.out; unfold maxLen; omega
  case c4 => exact HL.out
  case c5 => have := HO1.out.lt; omega
  intro v' w2 hown' hgrow hwh
  have hne := HB.out.ne
  have ho2 : ObjAt w2 b 41 [.pointer (some ⟨b, 0, none⟩), v] := (hgrow.block b HO1.out.lt (fun e => hne e.symm)).trans HO1.out
  have hk2 : Kept (bwF b v) w w2 := (HK1.out.mono (fun x hx => by simp at hx; subst hx; exact mem_bwF.2 (.inl rfl))).grown hgrow (fun k hk => .inl (mem_bwF.2 (.inr hk)))
  have d0 := ho2.cell (i := 0) rfl
  have d1 := ho2.cell (i := 1) rfl
  have f1 := ho2.free 1
  obtain ⟨ao, n', cap, rfl⟩ : ∃ ao n' cap, v' = .slice ao n' cap := by
    rcases hown'.2 with ⟨hv, _⟩ | ⟨g, cap, cur, fz, hv, _⟩
    · exact ⟨_, _, _, hv⟩
    · exact ⟨_, _, _, hv⟩
  have hne' : (Value.slice ao n' cap).ownBlock ≠ some b := by
    intro e'
    rcases hwh with h1 | ⟨g, h1, h2⟩
    · rw [h1] at e'; exact hne e'
    · rw [h1] at e'; have := Option.some.inj e'; have := HO1.out.lt; omega
  have hfin : BW (w2.setCell ⟨b, 1, none⟩ (.slice ao n' cap)) b (.slice ao n' cap) (l ++ s.data.toList) := by
    refine ⟨⟨_, .inr rfl, ho2.set 1 _⟩, ?_, hne'⟩
    have e1 : Lib.byteCells (l ++ s.data.toList) = Lib.byteCells l ++ Lib.strCells s := by rw [Lib.byteCells_append, Lib.strCells_eq]
    have e2 : (l ++ s.data.toList).length = l.length + s.size := by simp
    rw [e1, e2]
    refine hown'.kept (row := some b) ⟨rfl, rfl, rfl, by simp [World.setCell], fun k _ hk => Below.heap_setCell _ _ _ _ (fun e => hk (by rw [e]))⟩ (.inr hne')
  have hwh2 : (Value.slice ao n' cap).ownBlock = v.ownBlock ∨ ∃ g, (Value.slice ao n' cap).ownBlock = some g ∧ w.heap.size ≤ g := hwh.imp id (fun ⟨g, h1, h2⟩ => ⟨g, h1, Nat.le_trans HK1.out.size h2⟩)
  have hkf : Kept (bwF b v) w (w2.setCell ⟨b, 1, none⟩ (.slice ao n' cap)) := hk2.setCell (.inl (mem_bwF.2 (.inl rfl))) _
  have HF := hide (show BW (w2.setCell ⟨b, 1, none⟩ (.slice ao n' cap)) b (.slice ao n' cap) (l ++ s.data.toList) ∧ Kept (bwF b v) w (w2.setCell ⟨b, 1, none⟩ (.slice ao n' cap)) ∧ ((Value.slice ao n' cap).ownBlock = v.ownBlock ∨ ∃ g, (Value.slice ao n' cap).ownBlock = some g ∧ w.heap.size ≤ g) from ⟨hfin, hkf, hwh2⟩)
  clear hown' hgrow hwh hne ho2 hk2 hne' hfin hwh2 hkf
  go_wp2
  go_ret2
  exact ⟨rfl, _, HF.out⟩
end Go.Proofs.YtlnghfmcofmkjaaGreatDoor
