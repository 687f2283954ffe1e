/- The server of ServerOnce: a ticket, and a hello with the ticket that is kept. -/
import Derived.Test.YtlnehoedflbifaaServerO
namespace Go.Proofs.Ytlnehoedflbifaa
open Go.RowKit

theorem so_ticket {B b X : Nat} {li g0 u g3 : Int} {soon c t : Nat} (hu : tmB u = true) (ht : t < 100000) (w : World) (hB : B ≤ w.heap.size) (h : SO w B b X li g0 u g3 soon c t) :
    Calls Try.prog 5 #[.pointer (some ⟨b, 0, none⟩), .int .i64 u] w fun r w' => (∃ y, r = .returned y) ∧ SO w' B b X li g0 u g3 soon c (t + 1) ∧ Below B w w' := by
  obtain ⟨q, bi, bb, bv, e, k, o, v, va, vb, zs, z1, z2, n, m, many, h1, h2, h3, h4, h5, h6, h7, h8⟩ := h
  rcases blkNext_cases n m h7.1 h7.2.1 h7.2.2 with ⟨hnm, hf⟩ | ⟨n', m', hbn, hn1, hn2, hn3⟩
  · refine (svTicket_full h3 hu h7.1 (by omega) hf hnm w h1).mono ?_
    rintro r w' ⟨rfl, hs, hst⟩
    exact ⟨⟨_, rfl⟩, ⟨q, bi, bb, bv, e, k, o, v, va, vb, zs, z1, z2, n, m, many, hs, mine_step h2 hst, h3, h4, h5, h6, h7, ⟨h8.1, by omega⟩⟩, h1.bel (Below.refl _ _) hB hst⟩
  · refine (svTicket_ok h3 hu h7.1 h7.2.1 h7.2.2 hbn ⟨h8.1, by omega⟩ w h1).mono ?_
    rintro r w' ⟨rfl, hs, hst⟩
    exact ⟨⟨_, rfl⟩, ⟨q, bi, bb, bv, e, k, o, v, va, vb, zs, z1, z2, n', m', many + 1, hs, mine_step h2 hst, h3, h4, h5, h6, ⟨by omega, hn2, hn3⟩, ⟨by omega, by omega⟩⟩, h1.bel (Below.refl _ _) hB hst⟩
/-- the hello with the ticket -/
def soH (a g0 u g3 : Int) (s : ByteArray) : Value := .agg #[.int .i64 a, .int .i64 0, .int .i64 0, .int .i64 0, .int .i64 0, .int .i64 g0, .int .i64 0, .int .i64 u, .int .i64 g3, .string s]
/-- an answer, early or not -/
def soA (kd k0 k1 k2 k3 n : Int) (eb : Bool) : Value := .agg #[.int .i64 kd, .int .i64 k0, .int .i64 k1, .int .i64 k2, .int .i64 k3, .int .i64 0, .int .i64 n, .bool eb]
theorem obj_other8 {w : World} {X Y : Nat} {T : TypeId} {cs : List Value} (h : ObjAt w X T cs) (hn : X ≠ Y) (x0 x1 x2 x3 x4 x5 x6 x7 : Value) : ObjAt ((((((((w.setCell ⟨Y, 0, none⟩ x0).setCell ⟨Y, 1, none⟩ x1).setCell ⟨Y, 2, none⟩ x2).setCell ⟨Y, 3, none⟩ x3).setCell ⟨Y, 4, none⟩ x4).setCell ⟨Y, 5, none⟩ x5).setCell ⟨Y, 6, none⟩ x6).setCell ⟨Y, 7, none⟩ x7) X T cs :=
  (((((((h.setOther (a := ⟨Y, 0, none⟩) hn x0).setOther (a := ⟨Y, 1, none⟩) hn x1).setOther (a := ⟨Y, 2, none⟩) hn x2).setOther (a := ⟨Y, 3, none⟩) hn x3).setOther (a := ⟨Y, 4, none⟩) hn x4).setOther (a := ⟨Y, 5, none⟩) hn x5).setOther (a := ⟨Y, 6, none⟩) hn x6).setOther (a := ⟨Y, 7, none⟩) hn x7
/-- a block that is new at w, and the server behind a step from W -/
def soFr (w W w' : World) (B b X : Nat) (li g0 u g3 : Int) (soon c t : Nat) : Prop := ∀ (Y : Nat) (T : TypeId) (cs : List Value), w.heap.size ≤ Y → ObjAt W Y T cs → ObjAt w' Y T cs ∧ ∀ x0 x1 x2 x3 x4 x5 x6 x7 : Value, SO ((((((((w'.setCell ⟨Y, 0, none⟩ x0).setCell ⟨Y, 1, none⟩ x1).setCell ⟨Y, 2, none⟩ x2).setCell ⟨Y, 3, none⟩ x3).setCell ⟨Y, 4, none⟩ x4).setCell ⟨Y, 5, none⟩ x5).setCell ⟨Y, 6, none⟩ x6).setCell ⟨Y, 7, none⟩ x7) B b X li g0 u g3 soon c t
theorem SO.mine {w : World} {B b X : Nat} {li g0 u g3 : Int} {soon c t : Nat} (h : SO w B b X li g0 u g3 soon c t) : ObjAt w X 29 [.int .i64 g0, .int .i64 0, .int .i64 u, .int .i64 g3] := by
  obtain ⟨q, bi, bb, bv, e, k, o, v, va, vb, zs, z1, z2, n, m, many, h1, h2, h3⟩ := h
  exact h2.1
theorem so_hello {B b X : Nat} {li g0 u g3 : Int} {soon c t : Nat} (hu : tmB u = true) (hc : c < 4000) (w : World) (hB : B ≤ w.heap.size) (h : SO w B b X li g0 u g3 soon c t) (a now : Int) (s : ByteArray) (hsz : s.size ≤ 9223372036854775807) :
    (∃ c0, c0 ≠ 0 ∧ ∀ W, Below w.heap.size w W → Calls Try.prog 6 #[.pointer (some ⟨b, 0, none⟩), soH a g0 u g3 s, .int .i64 now] W fun r w' => r = .returned (.tuple #[soA 0 0 0 0 0 0 false, errV c0]) ∧ Below W.heap.size W w') ∨
    (∃ kd k0 k1 k2 k3, kd ≠ 1 ∧ ∀ W, Below w.heap.size w W → Calls Try.prog 6 #[.pointer (some ⟨b, 0, none⟩), soH a g0 u g3 s, .int .i64 now] W fun r w' => r = .returned (.tuple #[soA kd k0 k1 k2 k3 0 false, .nilIface]) ∧ Below W.heap.size W w') ∨
    (∀ W, Below w.heap.size w W → Calls Try.prog 6 #[.pointer (some ⟨b, 0, none⟩), soH a g0 u g3 s, .int .i64 now] W fun r w' => r = .returned (.tuple #[soA 1 0 0 0 0 (c : Int) false, .nilIface]) ∧ SO w' B b X li g0 u g3 soon (c + 1) t ∧ Below B W w' ∧ soFr w W w' B b X li g0 u g3 soon (c + 1) t) ∨
    (soon = 0 ∧ now ≤ u ∧ ∀ W, Below w.heap.size w W → Calls Try.prog 6 #[.pointer (some ⟨b, 0, none⟩), soH a g0 u g3 s, .int .i64 now] W fun r w' => r = .returned (.tuple #[soA 1 0 0 0 0 (c : Int) true, .nilIface]) ∧ SO w' B b X li g0 u g3 1 (c + 1) t ∧ Below B W w' ∧ soFr w W w' B b X li g0 u g3 1 (c + 1) t) := by
  obtain ⟨q, bi, bb, bv, e, k, o, v, va, vb, zs, z1, z2, n, m, many, h1, h2, h3, h4, h5, h6, h7, h8⟩ := h
  obtain ⟨n', eb, c0, hA⟩ : ∃ n' eb c0, ansN e k o a 0 0 0 0 g0 0 u g3 s (zs.length : Int) now li = (n', eb, c0) := ⟨_, _, _, rfl⟩
  have hm2 : ∀ W, Below w.heap.size w W → ObjAt W X 29 [.int .i64 g0, .int .i64 0, .int .i64 u, .int .i64 g3] ∧ X ∉ svF b q bi bb bv v va vb := fun W hW => ⟨h2.1.below hW, h2.2⟩
  have hnF : ∀ x, w.heap.size ≤ x → x ∉ svF b q bi bb bv v va vb := fun x hx hm => by have := (h1.lt x hm).2; omega
  have hXl := h2.1.lt
  by_cases hc0 : c0 = 0
  · subst hc0
    obtain ⟨hr, ha, hn, hl, hneed, heb⟩ := ans_ok hA
    have hkd : n' = 2 ∨ (n' = 1 ∧ zs.length < 8) ∨ n' = 0 := by
      rcases needs_cases hneed with ⟨_, hn1⟩ | ⟨_, hx, hn1⟩ | ⟨_, hx, _, hn1⟩ | ⟨_, hx, _, _, hn1⟩ | ⟨_, hx, _, _, hn1⟩
      · exact .inl hn1
      · exact .inr (.inl ⟨hn1, by omega⟩)
      · exact .inr (.inl ⟨hn1, by omega⟩)
      · exact .inr (.inl ⟨hn1, by omega⟩)
      · exact .inr (.inr hn1)
    rcases hkd with rfl | ⟨rfl, hz⟩ | rfl
    · refine Or.inr (Or.inl ⟨2, 0, 0, 0, 0, by decide, fun W hW => ?_⟩)
      exact sHello_busy hsz hA W (h1.below hW).sq
    · have hoff := so_off (c := c) h5 hz (by omega)
      have hcn : (0 : Int) ≤ (c : Int) ∧ (c : Int) < 4096 := ⟨by omega, by omega⟩
      have hl8 : (zs ++ [(0, (c : Int))]).length ≤ 8 := by simp; omega
      cases eb
      · refine Or.inr (Or.inr (Or.inl fun W hW => ?_))
        refine (sHello_wok hsz hA rfl hoff hcn W (h1.below hW).sq).mono ?_
        rintro r w' ⟨rfl, v', hs, hr', hk⟩
        obtain ⟨a1, a2⟩ := (h1.below hW).steps (Nat.le_trans hB hW.size) hs hr' hk
        exact ⟨rfl, ⟨q, bi, bb, bv, e, k, o, v', va, vb, _, z1, z2, n, m, many, by exact_mod_cast a1, mine_step (hm2 W hW) a2, h3, hl8, so_snoc h5, h6, h7, h8⟩, (h1.below hW).bel (Below.refl _ _) (Nat.le_trans hB hW.size) a2, fun Y T cs hY ho => ⟨a2.1.obj ho (hnF Y hY), fun x0 x1 x2 x3 x4 x5 x6 x7 => ⟨q, bi, bb, bv, e, k, o, v', va, vb, _, z1, z2, n, m, many, SV.set8 (by exact_mod_cast a1) (a2.out ho.lt (hnF Y hY)) _ _ _ _ _ _ _ _, ⟨obj_other8 (mine_step (hm2 W hW) a2).1 (by omega) _ _ _ _ _ _ _ _, (mine_step (hm2 W hW) a2).2⟩, h3, hl8, so_snoc h5, h6, h7, h8⟩⟩⟩
      · have hold := (early_true heb.symm).2.1
        have hle := so_old hold
        rcases h6 with ⟨hs0, rfl, rfl⟩ | ⟨hs1, rfl, rfl⟩
        · refine Or.inr (Or.inr (Or.inr ⟨hs0, hle, fun W hW => ?_⟩))
          refine (sHelloE_ok (ys := [(0, u)]) hsz hA rfl hoff hcn (by simp [spDrop]) (so_spent hu hn hle) (by simp) W (Nat.le_trans hB hW.size) (h1.below hW)).mono ?_
          rintro r w' ⟨rfl, v', va', vb', a1, a2⟩
          exact ⟨rfl, ⟨q, bi, bb, bv, e, k, o, v', va', vb', _, _, _, n, m, many, by exact_mod_cast a1, mine_step (hm2 W hW) a2, h3, hl8, so_snoc h5, .inr ⟨rfl, rfl, rfl⟩, h7, h8⟩, (h1.below hW).bel (Below.refl _ _) (Nat.le_trans hB hW.size) a2, fun Y T cs hY ho => ⟨a2.1.obj ho (hnF Y hY), fun x0 x1 x2 x3 x4 x5 x6 x7 => ⟨q, bi, bb, bv, e, k, o, v', va', vb', _, _, _, n, m, many, SV.set8 (by exact_mod_cast a1) (a2.out ho.lt (hnF Y hY)) _ _ _ _ _ _ _ _, ⟨obj_other8 (mine_step (hm2 W hW) a2).1 (by omega) _ _ _ _ _ _ _ _, (mine_step (hm2 W hW) a2).2⟩, h3, hl8, so_snoc h5, .inr ⟨rfl, rfl, rfl⟩, h7, h8⟩⟩⟩
        · refine Or.inr (Or.inr (Or.inl fun W hW => ?_))
          refine (sHelloE_no hsz hA rfl hoff hcn (so_again hu hn hle) (by decide) W (Nat.le_trans hB hW.size) (h1.below hW)).mono ?_
          rintro r w' ⟨rfl, v', a1, a2⟩
          exact ⟨rfl, ⟨q, bi, bb, bv, e, k, o, v', va, vb, _, _, _, n, m, many, by exact_mod_cast a1, mine_step (hm2 W hW) a2, h3, hl8, so_snoc h5, .inr ⟨hs1, rfl, rfl⟩, h7, h8⟩, (h1.below hW).bel (Below.refl _ _) (Nat.le_trans hB hW.size) a2, fun Y T cs hY ho => ⟨a2.1.obj ho (hnF Y hY), fun x0 x1 x2 x3 x4 x5 x6 x7 => ⟨q, bi, bb, bv, e, k, o, v', va, vb, _, _, _, n, m, many, SV.set8 (by exact_mod_cast a1) (a2.out ho.lt (hnF Y hY)) _ _ _ _ _ _ _ _, ⟨obj_other8 (mine_step (hm2 W hW) a2).1 (by omega) _ _ _ _ _ _ _ _, (mine_step (hm2 W hW) a2).2⟩, h3, hl8, so_snoc h5, .inr ⟨hs1, rfl, rfl⟩, h7, h8⟩⟩⟩
    · refine Or.inr (Or.inl ⟨0, e, a, now, tagOf k [1, a, now], by decide, fun W hW => ?_⟩)
      exact sHello_retry hsz hA hr ha hn W (h1.below hW).sq
  · refine Or.inl ⟨c0, hc0, fun W hW => ?_⟩
    exact sHello_err hsz hA hc0 W (h1.below hW).sq
end Go.Proofs.Ytlnehoedflbifaa
