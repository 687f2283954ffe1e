/- run: the desk's ticket, pull, hello by contract. run: the desk's do by contract, for each word. -/
import Derived.Test.YtlnghfmcofmkjaaGreatDoorRunAnswersProofM38
import Derived.Deep.RegionHeld3
namespace Go.Proofs.YtlnghfmcofmkjaaGreatDoor
open Go.RowKit

/-- a desk -/
def deskV (b : Nat) : Value := .agg #[.pointer (some ⟨b, 0, none⟩)]
set_option maxHeartbeats 4000000 in
theorem rdTicket {B b : Nat} {A : Vals} {t : Nat} (hI : RI A t) (ht : t < 4000) (u : Int) :
    DeskGo 64 #[deskV b, .int .i64 u] B b A (ticketR A u).2 (ticketR A u).1 := by
  intro K W F hR hE hK hB
  obtain ⟨_, c0, c1, c2, c3, f, htx, hf, hk, _, hg⟩ := rt_ticket (B := B) (b := b) (r := 0) hI ht u
  generalize (ticketR A u).2 = C at hg ⊢
  generalize (ticketR A u).1 = ans at htx ⊢
  have G := hide (fun W1 (hb : Below W.heap.size W W1) => hg.at hR hE hK hB hb)
  have HT := hide htx
  have HK := hide hk
  have HLT := hide hK
  have HFF := hide hf
  obtain ⟨F0, hF0⟩ : ∃ F0, F0 = F := ⟨F, rfl⟩
  rw [← hF0] at G ⊢
  clear hg hR hE hI htx hk hF0 hK hf
  unfold deskV
  go_enter Tryz.func64, Tryz.ntmps64
  go_wp2_with fail
  refine (G.out _ (by go_grown)).mono ?_
  rintro e w2 ⟨rfl, ⟨F', hR2, hs2⟩, hE2, hz2⟩
  have HR := hide hR2
  have HS := hide hs2
  have HE := hide hE2
  clear hR2 hs2 hE2
  go_wp2_with fail
  obtain ⟨W3, hW3⟩ : ∃ W3, W3 = (w2.alloc (.cells #[.int .i64 c0, .int .i64 c1, .int .i64 c2, .int .i64 c3] 67)).alloc (.cells #[.int .i64 c0, .int .i64 c1, .int .i64 c2, .int .i64 c3] 3) := ⟨_, rfl⟩
  have ho3 : ObjAt W3 (w2.heap.size + 1) 3 [.int .i64 c0, .int .i64 c1, .int .i64 c2, .int .i64 c3] := by rw [hW3]; exact objNew (by simp)
  have hb3 : Below w2.heap.size w2 W3 := by rw [hW3]; exact ((Below.refl _ _).alloc (Nat.le_refl _) _).alloc (by simp) _
  rw [← hW3]
  have hwb : W.heap.size ≤ w2.heap.size := by simp at hz2; omega
  refine (runRow4 HK.out _ _ W3 (ho3.cell (i := 0) rfl) (ho3.cell (i := 1) rfl) (ho3.cell (i := 2) rfl) (ho3.cell (i := 3) rfl) ho3.lt (fun X hX => (HE.out.below (hb3.trans (hX.mono hb3.size)) (by have := HLT.out; omega)).pow)).mono ?_
  rintro e w4 ⟨rfl, hb4⟩
  have HB4 := hide (hb3.trans (hb4.mono hb3.size))
  clear hW3 hb3 hb4 ho3
  go_wp2
  go_ret2
  exact DeskPost.mk HFF.out (by rw [HT.out]; unfold rowB; rfl) HR.out HS.out HB4.out
set_option maxHeartbeats 4000000 in
theorem rdPull {B b : Nat} {A : Vals} {t : Nat} (hI : RI A t) (ht : t < 4000) :
    DeskGo 65 #[deskV b] B b A (pullR A).2 (pullR A).1 := by
  intro K W F hR hE hK hB
  obtain ⟨_, x0, x1, f, htx, hf, hc, hg⟩ := rt_pull (B := B) (b := b) hI ht
  generalize (pullR A).2 = C at hg ⊢
  generalize (pullR A).1 = ans at htx ⊢
  have G := hide (fun W1 (hb : Below W.heap.size W W1) => hg.at hR hE hK hB hb)
  have HT := hide htx
  have HLT := hide hK
  have HFF := hide hf
  by_cases h0 : f = 0
  · subst h0
    have hcb := hc rfl
    have CI := hide (fun W => connIs x0 x1 W hcb)
    have NK := hide (connN_num hcb)
    have e0 : errV 0 = .nilIface := rfl
    rw [e0] at G
    clear hg hR hE hI htx hK hf hc hcb e0
    unfold deskV
    go_enter Tryz.func65, Tryz.ntmps65
    go_wp2_with fail
    refine (G.out _ (by go_grown)).mono ?_
    rintro e w2 ⟨rfl, ⟨F', hR2, hs2⟩, hE2, hz2⟩
    have HR := hide hR2
    have HS := hide hs2
    have HE := hide hE2
    clear hR2 hs2 hE2
    go_wp2_with fail
    refine (CI.out _).mono ?_
    rintro e w3 ⟨rfl, hb3⟩
    have HB3 := hide (((Below.refl w2.heap.size w2).alloc (Nat.le_refl _) _).trans (hb3.mono (by simp)))
    clear hb3
    go_wp2_with fail
    obtain ⟨W3, hW3⟩ : ∃ W3, W3 = w3.alloc (.cells #[.int .i64 (connN x0 x1)] 3) := ⟨_, rfl⟩
    have ho3 : ObjAt W3 w3.heap.size 3 [.int .i64 (connN x0 x1)] := by rw [hW3]; exact objNew (by simp)
    have hb4 : Below w2.heap.size w2 W3 := by rw [hW3]; exact HB3.out.alloc HB3.out.size _
    rw [← hW3]
    have hwb : W.heap.size ≤ w2.heap.size := by simp at hz2; omega
    refine (runRow1 NK.out _ _ W3 (ho3.cell (i := 0) rfl) ho3.lt (fun X hX => (HE.out.below (hb4.trans (hX.mono hb4.size)) (by have := HLT.out; omega)).pow)).mono ?_
    rintro e w4 ⟨rfl, hb5⟩
    have HB4 := hide (hb4.trans (hb5.mono hb4.size))
    clear hW3 hb4 hb5 ho3
    go_wp2
    go_ret2
    exact DeskPost.mk (f := 0) HFF.out (by rw [HT.out]; rfl) HR.out HS.out HB4.out
  · have hne : (f != 0) = true := bne_iff_ne.2 h0
    have H0 := hide h0
    clear hg hR hE hI htx hK hf hc h0
    unfold deskV
    go_enter Tryz.func65, Tryz.ntmps65
    go_wp2_with fail
    refine (G.out _ (by go_grown)).mono ?_
    rintro e w2 ⟨rfl, ⟨F', hR2, hs2⟩, hE2, hz2⟩
    have HR := hide hR2
    have HS := hide hs2
    have HE := hide hE2
    clear hR2 hs2 hE2
    go_wp2
    go_ret2
    exact DeskPost.mk HFF.out (by rw [HT.out, if_neg H0.out, if_neg H0.out]) HR.out HS.out (by go_grown)
set_option maxHeartbeats 8000000 in
theorem rdHello {B b : Nat} {A : Vals} {t : Nat} (hI : RI A t) (ht : t < 4000) (a t0 t1 t2 t3 now : Int) :
    DeskGo 63 #[deskV b, plH a t0 t1 t2 t3 0 0 0 0 ⟨#[]⟩, .int .i64 now] B b A (helloR A a t0 t1 t2 t3 now).2 (helloR A a t0 t1 t2 t3 now).1 := by
  intro K W F hR hE hK hB
  obtain ⟨_, k0, k1, k2, k3, k4, k5, k6, f, htx, hf, hk, hk0, hcb, _, hg⟩ := rt_hello (B := B) (b := b) (r := 0) hI ht a t0 t1 t2 t3 now
  generalize (helloR A a t0 t1 t2 t3 now).2 = C at hg ⊢
  generalize (helloR A a t0 t1 t2 t3 now).1 = ans at htx ⊢
  have G := hide (fun W1 (hb : Below W.heap.size W W1) => hg.at hR hE hK hB hb)
  unfold plH plA at G
  have HT := hide htx
  have HLT := hide hK
  have HFF := hide hf
  have HK := hide hk
  by_cases h0 : f = 0
  · subst h0
    have e0 : errV 0 = .nilIface := rfl
    rw [e0] at G
    have CI := hide (fun W => connIs k5 k6 W hcb)
    have NK := hide (connN_num hcb)
    have hkc : k0 = 0 ∨ k0 = 1 ∨ k0 = 2 := by omega
    clear hg hR hE hI htx hK hf hk hk0 hcb e0
    rcases hkc with rfl | rfl | rfl
    · unfold deskV plH
      go_enter Tryz.func63, Tryz.ntmps63
      go_wp2_with fail
      refine (G.out _ (by go_grown)).mono ?_
      rintro e w2 ⟨rfl, ⟨F', hR2, hs2⟩, hE2, hz2⟩
      have HR := hide hR2
      have HS := hide hs2
      have HE := hide hE2
      clear hR2 hs2 hE2
      go_wp2_with fail
      obtain ⟨W3, hW3⟩ : ∃ W3, W3 = (w2.alloc (.cells #[.int .i64 0, .int .i64 k1, .int .i64 k2, .int .i64 k3, .int .i64 k4, .int .i64 k5, .int .i64 k6, .bool false] 101)).alloc (.cells #[.int .i64 k1, .int .i64 k2, .int .i64 k3, .int .i64 k4] 3) := ⟨_, rfl⟩
      have ho3 : ObjAt W3 (w2.heap.size + 1) 3 [.int .i64 k1, .int .i64 k2, .int .i64 k3, .int .i64 k4] := by rw [hW3]; exact objNew (by simp)
      have hb3 : Below w2.heap.size w2 W3 := by rw [hW3]; exact ((Below.refl _ _).alloc (Nat.le_refl _) _).alloc (by simp) _
      rw [← hW3]
      have hwb : W.heap.size ≤ w2.heap.size := by simp at hz2; omega
      refine (runRow4 HK.out _ _ W3 (ho3.cell (i := 0) rfl) (ho3.cell (i := 1) rfl) (ho3.cell (i := 2) rfl) (ho3.cell (i := 3) rfl) ho3.lt (fun X hX => (HE.out.below (hb3.trans (hX.mono hb3.size)) (by have := HLT.out; omega)).pow)).mono ?_
      rintro e w4 ⟨rfl, hb4⟩
      have HB4 := hide (hb3.trans (hb4.mono hb3.size))
      have hrs := rowB_size4 HK.out
      clear hW3 hb3 hb4 ho3
      go_wp2
      exact bodyPost_ret (v := .tuple #[.string (⟨#[114, 101, 116, 114, 121, 32]⟩ ++ rowB [k1, k2, k3, k4]), .nilIface]) (by simp [results, Tryz.results63, go_sem]) rfl (DeskPost.mk (f := 0) HFF.out (by rw [HT.out]; simp [rowB, retW]) HR.out HS.out HB4.out)
    · unfold deskV plH
      go_enter Tryz.func63, Tryz.ntmps63
      go_wp2_with fail
      refine (G.out _ (by go_grown)).mono ?_
      rintro e w2 ⟨rfl, ⟨F', hR2, hs2⟩, hE2, hz2⟩
      have HR := hide hR2
      have HS := hide hs2
      have HE := hide hE2
      clear hR2 hs2 hE2
      go_wp2_with fail
      refine (CI.out _).mono ?_
      rintro e w3 ⟨rfl, hb3⟩
      have HB3 := hide (((Below.refl w2.heap.size w2).alloc (Nat.le_refl _) _).trans (hb3.mono (by simp)))
      clear hb3
      go_wp2_with fail
      obtain ⟨W3, hW3⟩ : ∃ W3, W3 = w3.alloc (.cells #[.int .i64 (connN k5 k6)] 3) := ⟨_, rfl⟩
      have ho3 : ObjAt W3 w3.heap.size 3 [.int .i64 (connN k5 k6)] := by rw [hW3]; exact objNew (by simp)
      have hb4 : Below w2.heap.size w2 W3 := by rw [hW3]; exact HB3.out.alloc HB3.out.size _
      rw [← hW3]
      have hwb : W.heap.size ≤ w2.heap.size := by simp at hz2; omega
      refine (runRow1 NK.out _ _ W3 (ho3.cell (i := 0) rfl) ho3.lt (fun X hX => (HE.out.below (hb4.trans (hX.mono hb4.size)) (by have := HLT.out; omega)).pow)).mono ?_
      rintro e w4 ⟨rfl, hb5⟩
      have HB4 := hide (hb4.trans (hb5.mono hb4.size))
      have hrs := rowB_size1 NK.out
      clear hW3 hb4 hb5 ho3
      go_wp2
      exact bodyPost_ret (v := .tuple #[.string (⟨#[119, 101, 108, 99, 111, 109, 101, 32]⟩ ++ rowB [connN k5 k6]), .nilIface]) (by simp [results, Tryz.results63, go_sem]) rfl (DeskPost.mk (f := 0) HFF.out (by rw [HT.out]; simp [rowB, rowL, welW]) HR.out HS.out HB4.out)
    · unfold deskV plH
      go_enter Tryz.func63, Tryz.ntmps63
      go_wp2_with fail
      refine (G.out _ (by go_grown)).mono ?_
      rintro e w2 ⟨rfl, ⟨F', hR2, hs2⟩, hE2, hz2⟩
      have HR := hide hR2
      have HS := hide hs2
      have HE := hide hE2
      clear hR2 hs2 hE2
      go_wp2
      go_ret2
      exact DeskPost.mk (f := 0) HFF.out (by rw [HT.out]; rfl) HR.out HS.out (by go_grown)
  · have hne : (f != 0) = true := bne_iff_ne.2 h0
    have H0 := hide h0
    clear hg hR hE hI htx hK hf hk hk0 hcb h0
    unfold deskV plH
    go_enter Tryz.func63, Tryz.ntmps63
    go_wp2_with fail
    refine (G.out _ (by go_grown)).mono ?_
    rintro e w2 ⟨rfl, ⟨F', hR2, hs2⟩, hE2, hz2⟩
    have HR := hide hR2
    have HS := hide hs2
    have HE := hide hE2
    clear hR2 hs2 hE2
    go_wp2
    go_ret2
    exact DeskPost.mk HFF.out (by rw [HT.out, if_pos H0.out, if_neg H0.out]) HR.out HS.out (by go_grown)
end Go.Proofs.YtlnghfmcofmkjaaGreatDoor

namespace Go.Proofs.YtlnghfmcofmkjaaGreatDoor
open Go.RowKit

/-- the cells of numbers in a row -/
def NumsAt (W : World) (v : Value) (us : List Nat) : Prop := ∃ a c, v = .slice a us.length c ∧ us.length ≤ c ∧ (us = [] ∨ ∃ g, a = some ⟨g, 0, none⟩ ∧ g < W.heap.size ∧ ∀ i, i < us.length → W.cell? ⟨g, i, none⟩ = some (.int .i64 ((us.getD i 0 : Nat) : Int)))
theorem DeskGo.at {f : FuncId} {args : Array Value} {B b : Nat} {A C : Vals} {ans : List UInt8} (h : DeskGo f args B b A C ans) {K : Nat} {W : World} {F : List Nat} (hR : RealAt W B b 50 A F) (hE : EnvR K W) (hK : K ≤ B) (hB : B ≤ W.heap.size) : ∀ W1, Below W.heap.size W W1 → Calls Tryz.prog f args W1 (DeskPost B b C F W1 ans) := fun W1 hb =>
  h K W1 F (hR.kept (Kept.of_below hb []) (by simp)) (hE.below hb (by omega)) hK (by have := hb.size; omega)
theorem DeskPost.out {B b : Nat} {C : Vals} {F : List Nat} {W W1 w w' : World} {ans : List UInt8} {e : Ending} (hb : Below W.heap.size W W1) (h : DeskPost B b C F W1 ans e w) (hw : Below w.heap.size w w') : DeskPost B b C F W ans e w' := by
  obtain ⟨h1, F', h2, h3⟩ := h
  exact ⟨h1, F', h2.kept (Kept.of_below hw []) (by simp), (h3.pre hb).post hw⟩

set_option maxRecDepth 100000 in
set_option maxHeartbeats 8000000 in
theorem rdDo_hello {B b : Nat} {A : Vals} {t : Nat} (hI : RI A t) (ht : t < 4000) (u0 u1 : Nat) (v : Value) (K : Nat) (W : World) (F : List Nat) (hR : RealAt W B b 50 A F) (hE : EnvR K W) (hK : K ≤ B) (hB : B ≤ W.heap.size) (hv : NumsAt W v [u0, u1]) (hd : ∀ g, v.ownBlock = some g → g ∉ F) :
    Calls Tryz.prog 50 #[deskV b, .string ⟨#[104, 101, 108, 108, 111]⟩, v] W (DeskPost B b (helloR A u0 0 0 0 0 u1).2 F W (helloR A u0 0 0 0 0 u1).1) := by
  have hg := rdHello (B := B) (b := b) hI ht u0 0 0 0 0 u1
  generalize (helloR A u0 0 0 0 0 u1).2 = C at hg ⊢
  generalize (helloR A u0 0 0 0 0 u1).1 = ans at hg ⊢
  have G := hide (hg.at hR hE hK hB)
  unfold plH at G
  obtain ⟨a, c, rfl, hcap, h0 | ⟨g, rfl, hgl, hc⟩⟩ := hv
  · cases h0
  · have hgF : g ∉ F := hd g rfl
    have c0 : W.cell? ⟨g, 0, none⟩ = some (.int .i64 (u0 : Int)) := hc 0 (by simp)
    have c1 : W.cell? ⟨g, 1, none⟩ = some (.int .i64 (u1 : Int)) := hc 1 (by simp)
    have e2 : [u0, u1].length = 2 := rfl
    have hFl : ∀ x ∈ F, x < W.heap.size := fun x hx => (hR.lt x hx).2
    have hX : ∀ w', Kept F (W.alloc (.cells #[.pointer (some ⟨b, 0, none⟩)] 37)) w' → w'.cell? ⟨W.heap.size, 0, none⟩ = some (.pointer (some ⟨b, 0, none⟩)) ∧ w'.cell? ⟨g, 0, none⟩ = some (.int .i64 (u0 : Int)) ∧ w'.cell? ⟨g, 1, none⟩ = some (.int .i64 (u1 : Int)) := by
      intro w' hk
      have hbx : ObjAt w' W.heap.size 37 [.pointer (some ⟨b, 0, none⟩)] := hk.obj (objNew rfl) (fun hm => by have := hFl _ hm; omega)
      have hcg : ∀ i, w'.cell? ⟨g, i, none⟩ = W.cell? ⟨g, i, none⟩ := fun i => (hk.cell (p := ⟨g, i, none⟩) (by simp; omega) hgF).trans (World.cell?_alloc_lt _ _ ⟨g, i, none⟩ hgl)
      exact ⟨hbx.cell (i := 0) rfl, (hcg 0).trans c0, (hcg 1).trans c1⟩
    have HX := hide hX
    rw [e2] at hcap ⊢
    clear hg hR hE hI hc e2 hFl hX hd hgF
    unfold deskV at G ⊢
    go_enter Tryz.func50, Tryz.ntmps50
    go_wp2_with fail
    go_region_held3 (fun w' => w'.cell? ⟨W.heap.size, 0, none⟩ = some (.pointer (some ⟨b, 0, none⟩)) ∧ w'.cell? ⟨g, 0, none⟩ = some (.int .i64 (u0 : Int)) ∧ w'.cell? ⟨g, 1, none⟩ = some (.int .i64 (u1 : Int))) (first | exact HX.out _ (by with_reducible assumption) | exact HX.out _ (Kept.refl _ _) | exact HX.out _ (Kept.refl _ _).drew | exact HX.out _ ((Kept.refl _ _).drewN _) | go_keep)
      (first
        | (go_at_call 63; refine (G.out _ (by go_grown)).mono ?_; rintro e w2 hD; have HD := hide hD; obtain ⟨⟨s, f, rfl, hf, ha⟩, F', hR2, hs2⟩ := hD; have hk2 : Kept F (W.alloc (.cells #[.pointer (some ⟨b, 0, none⟩)] 37)) w2 := (by first | exact hs2.1 | exact ((Kept.refl F _).drew).trans hs2.1 | exact ((Kept.refl F _).drewN _).trans hs2.1); clear hR2 hs2 ha))
    clear hk2
    go_wp2
    go_ret2
    exact HD.out.out (by go_grown) (Below.refl _ _)
set_option maxRecDepth 100000 in
set_option maxHeartbeats 8000000 in
theorem rdDo_again {B b : Nat} {A : Vals} {t : Nat} (hI : RI A t) (ht : t < 4000) (u0 u1 u2 u3 u4 u5 : Nat) (v : Value) (K : Nat) (W : World) (F : List Nat) (hR : RealAt W B b 50 A F) (hE : EnvR K W) (hK : K ≤ B) (hB : B ≤ W.heap.size) (hv : NumsAt W v [u0, u1, u2, u3, u4, u5]) (hd : ∀ g, v.ownBlock = some g → g ∉ F) :
    Calls Tryz.prog 50 #[deskV b, .string ⟨#[97, 103, 97, 105, 110]⟩, v] W (DeskPost B b (helloR A u0 u1 u2 u3 u4 u5).2 F W (helloR A u0 u1 u2 u3 u4 u5).1) := by
  have hg := rdHello (B := B) (b := b) hI ht u0 u1 u2 u3 u4 u5
  generalize (helloR A u0 u1 u2 u3 u4 u5).2 = C at hg ⊢
  generalize (helloR A u0 u1 u2 u3 u4 u5).1 = ans at hg ⊢
  have G := hide (hg.at hR hE hK hB)
  unfold plH at G
  obtain ⟨a, c, rfl, hcap, h0 | ⟨g, rfl, hgl, hc⟩⟩ := hv
  · cases h0
  · have hgF : g ∉ F := hd g rfl
    have c0 : W.cell? ⟨g, 0, none⟩ = some (.int .i64 (u0 : Int)) := hc 0 (by simp)
    have c1 : W.cell? ⟨g, 1, none⟩ = some (.int .i64 (u1 : Int)) := hc 1 (by simp)
    have c2 : W.cell? ⟨g, 2, none⟩ = some (.int .i64 (u2 : Int)) := hc 2 (by simp)
    have c3 : W.cell? ⟨g, 3, none⟩ = some (.int .i64 (u3 : Int)) := hc 3 (by simp)
    have c4 : W.cell? ⟨g, 4, none⟩ = some (.int .i64 (u4 : Int)) := hc 4 (by simp)
    have c5 : W.cell? ⟨g, 5, none⟩ = some (.int .i64 (u5 : Int)) := hc 5 (by simp)
    have e2 : [u0, u1, u2, u3, u4, u5].length = 6 := rfl
    have hFl : ∀ x ∈ F, x < W.heap.size := fun x hx => (hR.lt x hx).2
    have hX : ∀ w', Kept F (W.alloc (.cells #[.pointer (some ⟨b, 0, none⟩)] 37)) w' → w'.cell? ⟨W.heap.size, 0, none⟩ = some (.pointer (some ⟨b, 0, none⟩)) ∧ w'.cell? ⟨g, 0, none⟩ = some (.int .i64 (u0 : Int)) ∧ w'.cell? ⟨g, 1, none⟩ = some (.int .i64 (u1 : Int)) ∧ w'.cell? ⟨g, 2, none⟩ = some (.int .i64 (u2 : Int)) ∧ w'.cell? ⟨g, 3, none⟩ = some (.int .i64 (u3 : Int)) ∧ w'.cell? ⟨g, 4, none⟩ = some (.int .i64 (u4 : Int)) ∧ w'.cell? ⟨g, 5, none⟩ = some (.int .i64 (u5 : Int)) := by
      intro w' hk
      have hbx : ObjAt w' W.heap.size 37 [.pointer (some ⟨b, 0, none⟩)] := hk.obj (objNew rfl) (fun hm => by have := hFl _ hm; omega)
      have hcg : ∀ i, w'.cell? ⟨g, i, none⟩ = W.cell? ⟨g, i, none⟩ := fun i => (hk.cell (p := ⟨g, i, none⟩) (by simp; omega) hgF).trans (World.cell?_alloc_lt _ _ ⟨g, i, none⟩ hgl)
      exact ⟨hbx.cell (i := 0) rfl, (hcg 0).trans c0, (hcg 1).trans c1, (hcg 2).trans c2, (hcg 3).trans c3, (hcg 4).trans c4, (hcg 5).trans c5⟩
    have HX := hide hX
    rw [e2] at hcap ⊢
    clear hg hR hE hI hc e2 hFl hX hd hgF
    unfold deskV at G ⊢
    go_enter Tryz.func50, Tryz.ntmps50
    go_wp2_with fail
    go_region_held3 (fun w' => w'.cell? ⟨W.heap.size, 0, none⟩ = some (.pointer (some ⟨b, 0, none⟩)) ∧ w'.cell? ⟨g, 0, none⟩ = some (.int .i64 (u0 : Int)) ∧ w'.cell? ⟨g, 1, none⟩ = some (.int .i64 (u1 : Int)) ∧ w'.cell? ⟨g, 2, none⟩ = some (.int .i64 (u2 : Int)) ∧ w'.cell? ⟨g, 3, none⟩ = some (.int .i64 (u3 : Int)) ∧ w'.cell? ⟨g, 4, none⟩ = some (.int .i64 (u4 : Int)) ∧ w'.cell? ⟨g, 5, none⟩ = some (.int .i64 (u5 : Int))) (first | exact HX.out _ (by with_reducible assumption) | exact HX.out _ (Kept.refl _ _) | exact HX.out _ (Kept.refl _ _).drew | exact HX.out _ ((Kept.refl _ _).drewN _) | go_keep)
      (first
        | (go_at_call 63; refine (G.out _ (by go_grown)).mono ?_; rintro e w2 hD; have HD := hide hD; obtain ⟨⟨s, f, rfl, hf, ha⟩, F', hR2, hs2⟩ := hD; have hk2 : Kept F (W.alloc (.cells #[.pointer (some ⟨b, 0, none⟩)] 37)) w2 := (by first | exact hs2.1 | exact ((Kept.refl F _).drew).trans hs2.1 | exact ((Kept.refl F _).drewN _).trans hs2.1); clear hR2 hs2 ha))
    clear hk2
    go_wp2
    go_ret2
    exact HD.out.out (by go_grown) (Below.refl _ _)
set_option maxRecDepth 100000 in
set_option maxHeartbeats 8000000 in
theorem rdDo_ticket {B b : Nat} {A : Vals} {t : Nat} (hI : RI A t) (ht : t < 4000) (u0 : Nat) (v : Value) (K : Nat) (W : World) (F : List Nat) (hR : RealAt W B b 50 A F) (hE : EnvR K W) (hK : K ≤ B) (hB : B ≤ W.heap.size) (hv : NumsAt W v [u0]) (hd : ∀ g, v.ownBlock = some g → g ∉ F) :
    Calls Tryz.prog 50 #[deskV b, .string ⟨#[116, 105, 99, 107, 101, 116]⟩, v] W (DeskPost B b (ticketR A u0).2 F W (ticketR A u0).1) := by
  have hg := rdTicket (B := B) (b := b) hI ht u0
  generalize (ticketR A u0).2 = C at hg ⊢
  generalize (ticketR A u0).1 = ans at hg ⊢
  have G := hide (hg.at hR hE hK hB)
  obtain ⟨a, c, rfl, hcap, h0 | ⟨g, rfl, hgl, hc⟩⟩ := hv
  · cases h0
  · have hgF : g ∉ F := hd g rfl
    have c0 : W.cell? ⟨g, 0, none⟩ = some (.int .i64 (u0 : Int)) := hc 0 (by simp)
    have e2 : [u0].length = 1 := rfl
    have hFl : ∀ x ∈ F, x < W.heap.size := fun x hx => (hR.lt x hx).2
    have hX : ∀ w', Kept F (W.alloc (.cells #[.pointer (some ⟨b, 0, none⟩)] 37)) w' → w'.cell? ⟨W.heap.size, 0, none⟩ = some (.pointer (some ⟨b, 0, none⟩)) ∧ w'.cell? ⟨g, 0, none⟩ = some (.int .i64 (u0 : Int)) := by
      intro w' hk
      have hbx : ObjAt w' W.heap.size 37 [.pointer (some ⟨b, 0, none⟩)] := hk.obj (objNew rfl) (fun hm => by have := hFl _ hm; omega)
      have hcg : ∀ i, w'.cell? ⟨g, i, none⟩ = W.cell? ⟨g, i, none⟩ := fun i => (hk.cell (p := ⟨g, i, none⟩) (by simp; omega) hgF).trans (World.cell?_alloc_lt _ _ ⟨g, i, none⟩ hgl)
      exact ⟨hbx.cell (i := 0) rfl, (hcg 0).trans c0⟩
    have HX := hide hX
    rw [e2] at hcap ⊢
    clear hg hR hE hI hc e2 hFl hX hd hgF
    unfold deskV at G ⊢
    go_enter Tryz.func50, Tryz.ntmps50
    go_wp2_with fail
    go_region_held3 (fun w' => w'.cell? ⟨W.heap.size, 0, none⟩ = some (.pointer (some ⟨b, 0, none⟩)) ∧ w'.cell? ⟨g, 0, none⟩ = some (.int .i64 (u0 : Int))) (first | exact HX.out _ (by with_reducible assumption) | exact HX.out _ (Kept.refl _ _) | exact HX.out _ (Kept.refl _ _).drew | exact HX.out _ ((Kept.refl _ _).drewN _) | go_keep)
      (first
        | (go_at_call 64; refine (G.out _ (by go_grown)).mono ?_; rintro e w2 hD; have HD := hide hD; obtain ⟨⟨s, f, rfl, hf, ha⟩, F', hR2, hs2⟩ := hD; have hk2 : Kept F (W.alloc (.cells #[.pointer (some ⟨b, 0, none⟩)] 37)) w2 := (by first | exact hs2.1 | exact ((Kept.refl F _).drew).trans hs2.1 | exact ((Kept.refl F _).drewN _).trans hs2.1); clear hR2 hs2 ha))
    clear hk2
    go_wp2
    go_ret2
    exact HD.out.out (by go_grown) (Below.refl _ _)
/-- a word whose numbers are none: pull -/
theorem rdDo_pull {B b : Nat} {A : Vals} {t : Nat} (hI : RI A t) (ht : t < 4000) (v : Value) (K : Nat) (W : World) (F : List Nat) (hR : RealAt W B b 50 A F) (hE : EnvR K W) (hK : K ≤ B) (hB : B ≤ W.heap.size) :
    Calls Tryz.prog 50 #[deskV b, .string ⟨#[112, 117, 108, 108]⟩, v] W (DeskPost B b (pullR A).2 F W (pullR A).1) := by
  have hg := rdPull (B := B) (b := b) hI ht
  generalize (pullR A).2 = C at hg ⊢
  generalize (pullR A).1 = ans at hg ⊢
  have G := hide (hg.at hR hE hK hB)
  clear hg hR hE hI
  unfold deskV at G ⊢
  go_enter Tryz.func50, Tryz.ntmps50
  go_wp2_with fail
  refine (G.out _ (by go_grown)).mono ?_
  rintro e w2 hD
  have HD := hide hD
  obtain ⟨⟨s, f, rfl, hf, ha⟩, F', hR2, hs2⟩ := hD
  clear hR2 hs2 ha
  go_wp2
  go_ret2
  exact HD.out.out (by go_grown) (Below.refl _ _)
theorem rdDo_turn {B b : Nat} {A : Vals} {t : Nat} (hI : RI A t) (v : Value) (K : Nat) (W : World) (F : List Nat) (hR : RealAt W B b 50 A F) (hE : EnvR K W) (hK : K ≤ B) (hB : B ≤ W.heap.size) :
    Calls Tryz.prog 50 #[deskV b, .string ⟨#[116, 117, 114, 110]⟩, v] W (DeskPost B b (turnR A).2 F W (turnR A).1) := by
  obtain ⟨_, t1, t2, t3, f, htx, hf, _, _, hg⟩ := rt_turn (B := B) (b := b) hI
  generalize (turnR A).2 = C at hg ⊢
  generalize (turnR A).1 = ans at htx ⊢
  have G := hide (fun W1 (hb : Below W.heap.size W W1) => hg.at hR hE hK hB hb)
  have HT := hide htx
  have HFF := hide hf
  clear hg hR hE hI htx hf
  unfold deskV
  go_enter Tryz.func50, Tryz.ntmps50
  go_wp2_with fail
  refine (G.out _ (by go_grown)).mono ?_
  rintro e w2 ⟨rfl, ⟨F', hR2, hs2⟩, hE2, hz2⟩
  have HR := hide hR2
  have HS := hide hs2
  clear hR2 hs2 hE2
  go_wp2
  go_ret2
  exact DeskPost.mk HFF.out (by rw [HT.out]; rfl) HR.out HS.out (Below.refl _ _)
theorem rdDo_crash {B b : Nat} {A : Vals} {t : Nat} (hI : RI A t) (v : Value) (K : Nat) (W : World) (F : List Nat) (hR : RealAt W B b 50 A F) (hE : EnvR K W) (hK : K ≤ B) (hB : B ≤ W.heap.size) :
    Calls Tryz.prog 50 #[deskV b, .string ⟨#[99, 114, 97, 115, 104]⟩, v] W (DeskPost B b (crashV A) F W okW) := by
  obtain ⟨_, _, hg⟩ := rt_crash (B := B) (b := b) (r := 0) hI
  generalize crashV A = C at hg ⊢
  have G := hide (fun W1 (hb : Below W.heap.size W W1) => hg.at hR hE hK hB hb)
  clear hg hR hE hI
  unfold deskV
  go_enter Tryz.func50, Tryz.ntmps50
  go_wp2_with fail
  refine (G.out _ (by go_grown)).mono ?_
  rintro e w2 ⟨rfl, ⟨F', hR2, hs2⟩, hE2, hz2⟩
  have HR := hide hR2
  have HS := hide hs2
  clear hR2 hs2 hE2
  go_wp2
  go_ret2
  exact DeskPost.mk (f := 0) (by decide) rfl HR.out HS.out (Below.refl _ _)
theorem rdDo_wait {B b : Nat} {A : Vals} {t : Nat} (hI : RI A t) (v : Value) (K : Nat) (W : World) (F : List Nat) (hR : RealAt W B b 50 A F) (hE : EnvR K W) (hK : K ≤ B) (hB : B ≤ W.heap.size) :
    Calls Tryz.prog 50 #[deskV b, .string ⟨#[119, 97, 105, 116, 105, 110, 103]⟩, v] W (DeskPost B b A F W (digL (A.zs.length : Int))) := by
  have hn : numOk (A.zs.length : Int) := by
    have := hI.1.2.2.1
    exact ⟨by omega, by omega⟩
  have NK := hide hn
  have hg := rt_wait (B := B) (b := b) (A := A)
  obtain ⟨n, hnn⟩ : ∃ n, n = (A.zs.length : Int) := ⟨_, rfl⟩
  rw [← hnn] at hg NK ⊢
  have HLT := hide hK
  have G := hide (fun W1 (hb : Below W.heap.size W W1) => hg.at hR hE hK hB hb)
  clear hg hR hE hI hn hnn hK
  unfold deskV
  go_enter Tryz.func50, Tryz.ntmps50
  go_wp2_with fail
  refine (G.out _ (by go_grown)).mono ?_
  rintro e w2 ⟨rfl, ⟨F', hR2, hs2⟩, hE2, hz2⟩
  have HR := hide hR2
  have HS := hide hs2
  have HE := hide hE2
  clear hR2 hs2 hE2
  go_wp2_with fail
  obtain ⟨W3, hW3⟩ : ∃ W3, W3 = w2.alloc (.cells #[.int .i64 n] 3) := ⟨_, rfl⟩
  have ho3 : ObjAt W3 w2.heap.size 3 [.int .i64 n] := by rw [hW3]; exact objNew (by simp)
  have hb4 : Below w2.heap.size w2 W3 := by rw [hW3]; exact (Below.refl _ _).alloc (Nat.le_refl _) _
  rw [← hW3]
  have hwb : W.heap.size ≤ w2.heap.size := by simp at hz2; omega
  refine (runRow1 NK.out _ _ W3 (ho3.cell (i := 0) rfl) ho3.lt (fun X hX => (HE.out.below (hb4.trans (hX.mono hb4.size)) (by have := HLT.out; omega)).pow)).mono ?_
  rintro e w4 ⟨rfl, hb5⟩
  have HB4 := hide (hb4.trans (hb5.mono hb4.size))
  clear hW3 hb4 hb5 ho3
  go_wp2
  go_ret2
  exact DeskPost.mk (f := 0) (by decide) rfl HR.out HS.out HB4.out
end Go.Proofs.YtlnghfmcofmkjaaGreatDoor
