/- The server of ServerOnce: its state over many deeds, and each deed by a contract. -/
import Derived.Test.YtlnehoedflbifaaSHelloE
import Derived.Test.YtlnehoedflbifaaJudgeMeansWalk
import Derived.Test.YtlnehoedflbifaaBlkCases
namespace Go.Proofs.Ytlnehoedflbifaa
open Go.RowKit

/-- the server at b, the ticket (g0, 0, u, g3) in the box X; early bytes were taken 'soon' times, c conns were told, at most t tickets -/
def SO (w : World) (B b X : Nat) (li g0 u g3 : Int) (soon c t : Nat) : Prop :=
  ∃ (q bi bb bv : Nat) (e k o : Int) (v va vb : Value) (zs z1 z2 : List (Int × Int)) (n m many : Int), SV w B b q bi bb bv e k o li (c : Int) v va vb zs z1 z2 n m many ∧
    (ObjAt w X 29 [.int .i64 g0, .int .i64 0, .int .i64 u, .int .i64 g3] ∧ X ∉ svF b q bi bb bv v va vb) ∧
    ringE e k o = 0 ∧ zs.length ≤ 8 ∧ (∀ x ∈ zs, x.2 < (c : Int)) ∧ ((soon = 0 ∧ z1 = [] ∧ z2 = []) ∨ (soon = 1 ∧ z1 = [(0, u)] ∧ z2 = [(0, u)])) ∧ (0 ≤ n ∧ n ≤ m ∧ m ≤ 1000) ∧ (0 ≤ many ∧ many ≤ (t : Int))
theorem SO.below {w w' : World} {B b X : Nat} {li g0 u g3 : Int} {soon c t : Nat} (h : SO w B b X li g0 u g3 soon c t) (hb : Below w.heap.size w w') : SO w' B b X li g0 u g3 soon c t := by
  obtain ⟨q, bi, bb, bv, e, k, o, v, va, vb, zs, z1, z2, n, m, many, h1, h2, h3⟩ := h
  exact ⟨q, bi, bb, bv, e, k, o, v, va, vb, zs, z1, z2, n, m, many, h1.below hb, ⟨h2.1.below hb, h2.2⟩, h3⟩
theorem SO.more {w : World} {B b X : Nat} {li g0 u g3 : Int} {soon c t t' : Nat} (h : SO w B b X li g0 u g3 soon c t) (ht : t ≤ t') : SO w B b X li g0 u g3 soon c t' := by
  obtain ⟨q, bi, bb, bv, e, k, o, v, va, vb, zs, z1, z2, n, m, many, h1, h2, h3, h4, h5, h6, h7, h8⟩ := h
  exact ⟨q, bi, bb, bv, e, k, o, v, va, vb, zs, z1, z2, n, m, many, h1, h2, h3, h4, h5, h6, h7, ⟨h8.1, by omega⟩⟩
theorem mine_step {F F' : List Nat} {w w' : World} {X : Nat} {T : TypeId} {cs : List Value} (h : ObjAt w X T cs ∧ X ∉ F) (hs : SVst F F' w w') : ObjAt w' X T cs ∧ X ∉ F' := ⟨hs.1.obj h.1 h.2, hs.out h.1.lt h.2⟩
theorem so_crash {B b X : Nat} {li g0 u g3 : Int} {soon c t : Nat} (w : World) (hB : B ≤ w.heap.size) (h : SO w B b X li g0 u g3 soon c t) :
    Calls Try.prog 7 #[.pointer (some ⟨b, 0, none⟩)] w fun r w' => r = .returned (.tuple #[]) ∧ SO w' B b X li g0 u g3 soon c t ∧ Below B w w' := by
  obtain ⟨q, bi, bb, bv, e, k, o, v, va, vb, zs, z1, z2, n, m, many, h1, h2, h3, h4, h5, h6, h7, h8⟩ := h
  refine (svCrash w hB h1).mono ?_
  rintro r w' ⟨rfl, q', va', hs, ht⟩
  refine ⟨rfl, ⟨q', bi, bb, bv, e, k, o, _, va', vb, [], z2, z2, m, m, many, hs, mine_step h2 ht, h3, by simp, by simp, ?_, ⟨by omega, by omega, h7.2.2⟩, h8⟩, h1.bel (Below.refl _ _) hB ht⟩
  rcases h6 with ⟨a, _, c'⟩ | ⟨a, _, c'⟩
  · exact .inl ⟨a, c', c'⟩
  · exact .inr ⟨a, c', c'⟩
theorem so_turn {B b X : Nat} {li g0 u g3 : Int} {soon c t : Nat} (w : World) (hB : B ≤ w.heap.size) (h : SO w B b X li g0 u g3 soon c t) :
    Calls Try.prog 8 #[.pointer (some ⟨b, 0, none⟩)] w fun r w' => (∃ y, r = .returned y) ∧ SO w' B b X li g0 u g3 soon c t ∧ Below B w w' := by
  obtain ⟨q, bi, bb, bv, e, k, o, v, va, vb, zs, z1, z2, n, m, many, h1, h2, h3, h4, h5, h6, h7, h8⟩ := h
  by_cases he : e < 100
  · refine (svTurn_ok h3 he w hB h1).mono ?_
    rintro r w' ⟨rfl, hs, ht⟩
    exact ⟨⟨_, rfl⟩, ⟨q, bi, bb, bv, _, _, _, v, va, vb, zs, z1, z2, n, m, many, hs, mine_step h2 ht, ringTurn_right h3 he, h4, h5, h6, h7, h8⟩, h1.bel (Below.refl _ _) hB ht⟩
  · obtain ⟨he0, _, _, _⟩ := ringE_ok h3
    obtain rfl : e = 100 := by omega
    refine (svTurn_full h3 w h1).mono ?_
    rintro r w' ⟨rfl, hb⟩
    exact ⟨⟨_, rfl⟩, SO.below ⟨q, bi, bb, bv, _, _, _, v, va, vb, zs, z1, z2, n, m, many, h1, h2, h3, h4, h5, h6, h7, h8⟩ hb, hb.mono hB⟩
theorem so_pull {B b X : Nat} {li g0 u g3 : Int} {soon c t : Nat} (w : World) (hB : B ≤ w.heap.size) (h : SO w B b X li g0 u g3 soon c t) :
    Calls Try.prog 9 #[.pointer (some ⟨b, 0, none⟩)] w fun r w' => (∃ y, r = .returned y) ∧ SO w' B b X li g0 u g3 soon c t ∧ Below B w w' := by
  obtain ⟨q, bi, bb, bv, e, k, o, v, va, vb, zs, z1, z2, n, m, many, h1, h2, h3, h4, h5, h6, h7, h8⟩ := h
  rcases zs with _ | ⟨y, l⟩
  · refine (sPull_none w h1.sq).mono ?_
    rintro r w' ⟨rfl, hb⟩
    exact ⟨⟨_, rfl⟩, SO.below ⟨q, bi, bb, bv, _, _, _, v, va, vb, [], z1, z2, n, m, many, h1, h2, h3, h4, h5, h6, h7, h8⟩ hb, hb.mono hB⟩
  · refine (sPull_one w h1.sq).mono ?_
    rintro r w' ⟨rfl, v', hs, hr, hk⟩
    obtain ⟨a1, a2⟩ := h1.steps hB hs hr (hk.mono (fun x hx => List.mem_cons_of_mem _ hx))
    exact ⟨⟨_, rfl⟩, ⟨q, bi, bb, bv, e, k, o, v', va, vb, l, z1, z2, n, m, many, a1, mine_step h2 a2, h3, by simp at h4; omega, fun x hx => h5 x (List.mem_cons_of_mem _ hx), h6, h7, h8⟩, h1.bel (Below.refl _ _) hB a2⟩
theorem so_spent {u now : Int} (hu : tmB u = true) (hn : tmB now = true) (hle : now ≤ u) : spMoreE [] 0 u now = 0 := by
  unfold spMoreE
  rw [if_neg (by simp [hu, hn]; decide), if_neg (by omega)]
  simp [spDrop]
theorem so_again {u now : Int} (hu : tmB u = true) (hn : tmB now = true) (hle : now ≤ u) : spMoreE [(0, u)] 0 u now = 7 := by
  unfold spMoreE
  rw [if_neg (by simp [hu, hn]; decide), if_neg (by omega), if_pos]
  simp [spDrop, hle]
theorem so_off {zs : List (Int × Int)} {c : Nat} (h : ∀ x ∈ zs, x.2 < (c : Int)) (hl : zs.length < 8) (hc : c < 4096) : offE zs 0 (c : Int) = 0 := by
  unfold offE
  rw [if_neg (by rw [show connB 0 (c : Int) = true from decide_eq_true (by omega)]; simp), if_neg, if_neg (by omega)]
  intro ha
  obtain ⟨x, hx, hp⟩ := List.any_eq_true.1 ha
  have := h x hx
  simp [cnP] at hp
  omega
theorem so_snoc {zs : List (Int × Int)} {c : Nat} (h : ∀ x ∈ zs, x.2 < (c : Int)) : ∀ x ∈ zs ++ [(0, (c : Int))], x.2 < ((c + 1 : Nat) : Int) := by
  intro x hx
  rcases List.mem_append.1 hx with hx | hx
  · have := h x hx; omega
  · simp at hx; subst hx; show (c : Int) < _; omega
/-- a ticket that is right counts still -/
theorem so_old {e k o g0 u g3 now : Int} (h : oldB e k o g0 0 u g3 now = true) : now ≤ u := by
  unfold oldB at h
  simp only [Bool.and_eq_true, beq_iff_eq] at h
  have h2 := h.2
  unfold tickE at h2
  by_cases a1 : ringE e k o ≠ 0
  · rw [if_pos a1] at h2; exact absurd h2 a1
  · rw [if_neg a1] at h2
    split at h2
    · exact absurd h2 (by decide)
    · split at h2
      · rename_i h3; exact absurd h2 h3
      · split at h2
        · exact absurd h2 (by decide)
        · split at h2
          · exact absurd h2 (by decide)
          · omega
end Go.Proofs.Ytlnehoedflbifaa
