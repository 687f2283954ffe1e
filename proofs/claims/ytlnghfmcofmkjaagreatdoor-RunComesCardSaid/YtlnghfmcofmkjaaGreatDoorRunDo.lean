/- run: the desk's do by contract, for each word. -/
import Derived.Test.YtlnghfmcofmkjaaGreatDoorRunComesProofM40
import Derived.Deep.RegionHeld3
namespace Go.Proofs.YtlnghfmcofmkjaaGreatDoor
open Go.RowKit

/-- the cells of numbers in a row -/
def NumsAt (W : World) (v : Value) (us : List Nat) : Prop := ∃ a c, v = .slice a us.length c ∧ us.length ≤ c ∧ (us = [] ∨ ∃ g, a = some ⟨g, 0, none⟩ ∧ g < W.heap.size ∧ ∀ i, i < us.length → W.cell? ⟨g, i, none⟩ = some (.int .i64 ((us.getD i 0 : Nat) : Int)))
theorem DeskGo.at {f : FuncId} {args : Array Value} {B b : Nat} {A C : Vals} {ans : List UInt8} (h : DeskGo f args B b A C ans) {K : Nat} {W : World} {F : List Nat} (hR : RealAt W B b 50 A F) (hE : EnvR K W) (hK : K ≤ B) (hB : B ≤ W.heap.size) : ∀ W1, Below W.heap.size W W1 → Calls Tryz.prog f args W1 (DeskPost B b C F W1 ans) := fun W1 hb =>
  h K W1 F (hR.kept (Kept.of_below hb []) (by simp)) (hE.below hb (by omega)) hK (by have := hb.size; omega)
theorem DeskPost.out {B b : Nat} {C : Vals} {F : List Nat} {W W1 w w' : World} {ans : List UInt8} {e : Ending} (hb : Below W.heap.size W W1) (h : DeskPost B b C F W1 ans e w) (hw : Below w.heap.size w w') : DeskPost B b C F W ans e w' := by
  obtain ⟨h1, F', h2, h3⟩ := h
  exact ⟨h1, F', h2.kept (Kept.of_below hw []) (by simp), (h3.pre hb).post hw⟩

set_option maxRecDepth 100000 in
set_option maxHeartbeats 8000000 in
theorem rdDo_hello {B b : Nat} {A : Vals} {t : Nat} (hI : RI A t) (ht : t < 4000) (u0 u1 : Nat) (v : Value) (K : Nat) (W : World) (F : List Nat) (hR : RealAt W B b 50 A F) (hE : EnvR K W) (hK : K ≤ B) (hB : B ≤ W.heap.size) (hv : NumsAt W v [u0, u1]) (hd : ∀ g, v.ownBlock = some g → g ∉ F) :
    Calls Tryz.prog 50 #[deskV b, .string ⟨#[104, 101, 108, 108, 111]⟩, v] W (DeskPost B b (helloR A u0 0 0 0 0 u1).2 F W (helloR A u0 0 0 0 0 u1).1) := by
  have hg := rdHello (B := B) (b := b) hI ht u0 0 0 0 0 u1
  generalize (helloR A u0 0 0 0 0 u1).2 = C at hg ⊢
  generalize (helloR A u0 0 0 0 0 u1).1 = ans at hg ⊢
  have G := hide (hg.at hR hE hK hB)
  unfold plH at G
  obtain ⟨a, c, rfl, hcap, h0 | ⟨g, rfl, hgl, hc⟩⟩ := hv
  · cases h0
  · have hgF : g ∉ F := hd g rfl
    have c0 : W.cell? ⟨g, 0, none⟩ = some (.int .i64 (u0 : Int)) := hc 0 (by simp)
    have c1 : W.cell? ⟨g, 1, none⟩ = some (.int .i64 (u1 : Int)) := hc 1 (by simp)
    have e2 : [u0, u1].length = 2 := rfl
    have hFl : ∀ x ∈ F, x < W.heap.size := fun x hx => (hR.lt x hx).2
    have hX : ∀ w', Kept F (W.alloc (.cells #[.pointer (some ⟨b, 0, none⟩)] 37)) w' → w'.cell? ⟨W.heap.size, 0, none⟩ = some (.pointer (some ⟨b, 0, none⟩)) ∧ w'.cell? ⟨g, 0, none⟩ = some (.int .i64 (u0 : Int)) ∧ w'.cell? ⟨g, 1, none⟩ = some (.int .i64 (u1 : Int)) := by
      intro w' hk
      have hbx : ObjAt w' W.heap.size 37 [.pointer (some ⟨b, 0, none⟩)] := hk.obj (objNew rfl) (fun hm => by have := hFl _ hm; omega)
      have hcg : ∀ i, w'.cell? ⟨g, i, none⟩ = W.cell? ⟨g, i, none⟩ := fun i => (hk.cell (p := ⟨g, i, none⟩) (by simp; omega) hgF).trans (World.cell?_alloc_lt _ _ ⟨g, i, none⟩ hgl)
      exact ⟨hbx.cell (i := 0) rfl, (hcg 0).trans c0, (hcg 1).trans c1⟩
    have HX := hide hX
    rw [e2] at hcap ⊢
    clear hg hR hE hI hc e2 hFl hX hd hgF
    unfold deskV at G ⊢
    go_enter Tryz.func50, Tryz.ntmps50
    go_wp2_with fail
    go_region_held3 (fun w' => w'.cell? ⟨W.heap.size, 0, none⟩ = some (.pointer (some ⟨b, 0, none⟩)) ∧ w'.cell? ⟨g, 0, none⟩ = some (.int .i64 (u0 : Int)) ∧ w'.cell? ⟨g, 1, none⟩ = some (.int .i64 (u1 : Int))) (first | exact HX.out _ (by with_reducible assumption) | exact HX.out _ (Kept.refl _ _) | exact HX.out _ (Kept.refl _ _).drew | exact HX.out _ ((Kept.refl _ _).drewN _) | go_keep)
      (first
        | (go_at_call 63; refine (G.out _ (by go_grown)).mono ?_; rintro e w2 hD; have HD := hide hD; obtain ⟨⟨s, f, rfl, hf, ha⟩, F', hR2, hs2⟩ := hD; have hk2 : Kept F (W.alloc (.cells #[.pointer (some ⟨b, 0, none⟩)] 37)) w2 := (by first | exact hs2.1 | exact ((Kept.refl F _).drew).trans hs2.1 | exact ((Kept.refl F _).drewN _).trans hs2.1); clear hR2 hs2 ha))
    clear hk2
    go_wp2
    go_ret2
    exact HD.out.out (by go_grown) (Below.refl _ _)
set_option maxRecDepth 100000 in
set_option maxHeartbeats 8000000 in
theorem rdDo_again {B b : Nat} {A : Vals} {t : Nat} (hI : RI A t) (ht : t < 4000) (u0 u1 u2 u3 u4 u5 : Nat) (v : Value) (K : Nat) (W : World) (F : List Nat) (hR : RealAt W B b 50 A F) (hE : EnvR K W) (hK : K ≤ B) (hB : B ≤ W.heap.size) (hv : NumsAt W v [u0, u1, u2, u3, u4, u5]) (hd : ∀ g, v.ownBlock = some g → g ∉ F) :
    Calls Tryz.prog 50 #[deskV b, .string ⟨#[97, 103, 97, 105, 110]⟩, v] W (DeskPost B b (helloR A u0 u1 u2 u3 u4 u5).2 F W (helloR A u0 u1 u2 u3 u4 u5).1) := by
  have hg := rdHello (B := B) (b := b) hI ht u0 u1 u2 u3 u4 u5
  generalize (helloR A u0 u1 u2 u3 u4 u5).2 = C at hg ⊢
  generalize (helloR A u0 u1 u2 u3 u4 u5).1 = ans at hg ⊢
  have G := hide (hg.at hR hE hK hB)
  unfold plH at G
  obtain ⟨a, c, rfl, hcap, h0 | ⟨g, rfl, hgl, hc⟩⟩ := hv
  · cases h0
  · have hgF : g ∉ F := hd g rfl
    have c0 : W.cell? ⟨g, 0, none⟩ = some (.int .i64 (u0 : Int)) := hc 0 (by simp)
    have c1 : W.cell? ⟨g, 1, none⟩ = some (.int .i64 (u1 : Int)) := hc 1 (by simp)
    have c2 : W.cell? ⟨g, 2, none⟩ = some (.int .i64 (u2 : Int)) := hc 2 (by simp)
    have c3 : W.cell? ⟨g, 3, none⟩ = some (.int .i64 (u3 : Int)) := hc 3 (by simp)
    have c4 : W.cell? ⟨g, 4, none⟩ = some (.int .i64 (u4 : Int)) := hc 4 (by simp)
    have c5 : W.cell? ⟨g, 5, none⟩ = some (.int .i64 (u5 : Int)) := hc 5 (by simp)
    have e2 : [u0, u1, u2, u3, u4, u5].length = 6 := rfl
    have hFl : ∀ x ∈ F, x < W.heap.size := fun x hx => (hR.lt x hx).2
    have hX : ∀ w', Kept F (W.alloc (.cells #[.pointer (some ⟨b, 0, none⟩)] 37)) w' → w'.cell? ⟨W.heap.size, 0, none⟩ = some (.pointer (some ⟨b, 0, none⟩)) ∧ w'.cell? ⟨g, 0, none⟩ = some (.int .i64 (u0 : Int)) ∧ w'.cell? ⟨g, 1, none⟩ = some (.int .i64 (u1 : Int)) ∧ w'.cell? ⟨g, 2, none⟩ = some (.int .i64 (u2 : Int)) ∧ w'.cell? ⟨g, 3, none⟩ = some (.int .i64 (u3 : Int)) ∧ w'.cell? ⟨g, 4, none⟩ = some (.int .i64 (u4 : Int)) ∧ w'.cell? ⟨g, 5, none⟩ = some (.int .i64 (u5 : Int)) := by
      intro w' hk
      have hbx : ObjAt w' W.heap.size 37 [.pointer (some ⟨b, 0, none⟩)] := hk.obj (objNew rfl) (fun hm => by have := hFl _ hm; omega)
      have hcg : ∀ i, w'.cell? ⟨g, i, none⟩ = W.cell? ⟨g, i, none⟩ := fun i => (hk.cell (p := ⟨g, i, none⟩) (by simp; omega) hgF).trans (World.cell?_alloc_lt _ _ ⟨g, i, none⟩ hgl)
      exact ⟨hbx.cell (i := 0) rfl, (hcg 0).trans c0, (hcg 1).trans c1, (hcg 2).trans c2, (hcg 3).trans c3, (hcg 4).trans c4, (hcg 5).trans c5⟩
    have HX := hide hX
    rw [e2] at hcap ⊢
    clear hg hR hE hI hc e2 hFl hX hd hgF
    unfold deskV at G ⊢
    go_enter Tryz.func50, Tryz.ntmps50
    go_wp2_with fail
    go_region_held3 (fun w' => w'.cell? ⟨W.heap.size, 0, none⟩ = some (.pointer (some ⟨b, 0, none⟩)) ∧ w'.cell? ⟨g, 0, none⟩ = some (.int .i64 (u0 : Int)) ∧ w'.cell? ⟨g, 1, none⟩ = some (.int .i64 (u1 : Int)) ∧ w'.cell? ⟨g, 2, none⟩ = some (.int .i64 (u2 : Int)) ∧ w'.cell? ⟨g, 3, none⟩ = some (.int .i64 (u3 : Int)) ∧ w'.cell? ⟨g, 4, none⟩ = some (.int .i64 (u4 : Int)) ∧ w'.cell? ⟨g, 5, none⟩ = some (.int .i64 (u5 : Int))) (first | exact HX.out _ (by with_reducible assumption) | exact HX.out _ (Kept.refl _ _) | exact HX.out _ (Kept.refl _ _).drew | exact HX.out _ ((Kept.refl _ _).drewN _) | go_keep)
      (first
        | (go_at_call 63; refine (G.out _ (by go_grown)).mono ?_; rintro e w2 hD; have HD := hide hD; obtain ⟨⟨s, f, rfl, hf, ha⟩, F', hR2, hs2⟩ := hD; have hk2 : Kept F (W.alloc (.cells #[.pointer (some ⟨b, 0, none⟩)] 37)) w2 := (by first | exact hs2.1 | exact ((Kept.refl F _).drew).trans hs2.1 | exact ((Kept.refl F _).drewN _).trans hs2.1); clear hR2 hs2 ha))
    clear hk2
    go_wp2
    go_ret2
    exact HD.out.out (by go_grown) (Below.refl _ _)
set_option maxRecDepth 100000 in
set_option maxHeartbeats 8000000 in
theorem rdDo_ticket {B b : Nat} {A : Vals} {t : Nat} (hI : RI A t) (ht : t < 4000) (u0 : Nat) (v : Value) (K : Nat) (W : World) (F : List Nat) (hR : RealAt W B b 50 A F) (hE : EnvR K W) (hK : K ≤ B) (hB : B ≤ W.heap.size) (hv : NumsAt W v [u0]) (hd : ∀ g, v.ownBlock = some g → g ∉ F) :
    Calls Tryz.prog 50 #[deskV b, .string ⟨#[116, 105, 99, 107, 101, 116]⟩, v] W (DeskPost B b (ticketR A u0).2 F W (ticketR A u0).1) := by
  have hg := rdTicket (B := B) (b := b) hI ht u0
  generalize (ticketR A u0).2 = C at hg ⊢
  generalize (ticketR A u0).1 = ans at hg ⊢
  have G := hide (hg.at hR hE hK hB)
  obtain ⟨a, c, rfl, hcap, h0 | ⟨g, rfl, hgl, hc⟩⟩ := hv
  · cases h0
  · have hgF : g ∉ F := hd g rfl
    have c0 : W.cell? ⟨g, 0, none⟩ = some (.int .i64 (u0 : Int)) := hc 0 (by simp)
    have e2 : [u0].length = 1 := rfl
    have hFl : ∀ x ∈ F, x < W.heap.size := fun x hx => (hR.lt x hx).2
    have hX : ∀ w', Kept F (W.alloc (.cells #[.pointer (some ⟨b, 0, none⟩)] 37)) w' → w'.cell? ⟨W.heap.size, 0, none⟩ = some (.pointer (some ⟨b, 0, none⟩)) ∧ w'.cell? ⟨g, 0, none⟩ = some (.int .i64 (u0 : Int)) := by
      intro w' hk
      have hbx : ObjAt w' W.heap.size 37 [.pointer (some ⟨b, 0, none⟩)] := hk.obj (objNew rfl) (fun hm => by have := hFl _ hm; omega)
      have hcg : ∀ i, w'.cell? ⟨g, i, none⟩ = W.cell? ⟨g, i, none⟩ := fun i => (hk.cell (p := ⟨g, i, none⟩) (by simp; omega) hgF).trans (World.cell?_alloc_lt _ _ ⟨g, i, none⟩ hgl)
      exact ⟨hbx.cell (i := 0) rfl, (hcg 0).trans c0⟩
    have HX := hide hX
    rw [e2] at hcap ⊢
    clear hg hR hE hI hc e2 hFl hX hd hgF
    unfold deskV at G ⊢
    go_enter Tryz.func50, Tryz.ntmps50
    go_wp2_with fail
    go_region_held3 (fun w' => w'.cell? ⟨W.heap.size, 0, none⟩ = some (.pointer (some ⟨b, 0, none⟩)) ∧ w'.cell? ⟨g, 0, none⟩ = some (.int .i64 (u0 : Int))) (first | exact HX.out _ (by with_reducible assumption) | exact HX.out _ (Kept.refl _ _) | exact HX.out _ (Kept.refl _ _).drew | exact HX.out _ ((Kept.refl _ _).drewN _) | go_keep)
      (first
        | (go_at_call 64; refine (G.out _ (by go_grown)).mono ?_; rintro e w2 hD; have HD := hide hD; obtain ⟨⟨s, f, rfl, hf, ha⟩, F', hR2, hs2⟩ := hD; have hk2 : Kept F (W.alloc (.cells #[.pointer (some ⟨b, 0, none⟩)] 37)) w2 := (by first | exact hs2.1 | exact ((Kept.refl F _).drew).trans hs2.1 | exact ((Kept.refl F _).drewN _).trans hs2.1); clear hR2 hs2 ha))
    clear hk2
    go_wp2
    go_ret2
    exact HD.out.out (by go_grown) (Below.refl _ _)
/-- a word whose numbers are none: pull -/
theorem rdDo_pull {B b : Nat} {A : Vals} {t : Nat} (hI : RI A t) (ht : t < 4000) (v : Value) (K : Nat) (W : World) (F : List Nat) (hR : RealAt W B b 50 A F) (hE : EnvR K W) (hK : K ≤ B) (hB : B ≤ W.heap.size) :
    Calls Tryz.prog 50 #[deskV b, .string ⟨#[112, 117, 108, 108]⟩, v] W (DeskPost B b (pullR A).2 F W (pullR A).1) := by
  have hg := rdPull (B := B) (b := b) hI ht
  generalize (pullR A).2 = C at hg ⊢
  generalize (pullR A).1 = ans at hg ⊢
  have G := hide (hg.at hR hE hK hB)
  clear hg hR hE hI
  unfold deskV at G ⊢
  go_enter Tryz.func50, Tryz.ntmps50
  go_wp2_with fail
  refine (G.out _ (by go_grown)).mono ?_
  rintro e w2 hD
  have HD := hide hD
  obtain ⟨⟨s, f, rfl, hf, ha⟩, F', hR2, hs2⟩ := hD
  clear hR2 hs2 ha
  go_wp2
  go_ret2
  exact HD.out.out (by go_grown) (Below.refl _ _)
theorem rdDo_turn {B b : Nat} {A : Vals} {t : Nat} (hI : RI A t) (v : Value) (K : Nat) (W : World) (F : List Nat) (hR : RealAt W B b 50 A F) (hE : EnvR K W) (hK : K ≤ B) (hB : B ≤ W.heap.size) :
    Calls Tryz.prog 50 #[deskV b, .string ⟨#[116, 117, 114, 110]⟩, v] W (DeskPost B b (turnR A).2 F W (turnR A).1) := by
  obtain ⟨_, t1, t2, t3, f, htx, hf, _, _, hg⟩ := rt_turn (B := B) (b := b) hI
  generalize (turnR A).2 = C at hg ⊢
  generalize (turnR A).1 = ans at htx ⊢
  have G := hide (fun W1 (hb : Below W.heap.size W W1) => hg.at hR hE hK hB hb)
  have HT := hide htx
  have HFF := hide hf
  clear hg hR hE hI htx hf
  unfold deskV
  go_enter Tryz.func50, Tryz.ntmps50
  go_wp2_with fail
  refine (G.out _ (by go_grown)).mono ?_
  rintro e w2 ⟨rfl, ⟨F', hR2, hs2⟩, hE2, hz2⟩
  have HR := hide hR2
  have HS := hide hs2
  clear hR2 hs2 hE2
  go_wp2
  go_ret2
  exact DeskPost.mk HFF.out (by rw [HT.out]; rfl) HR.out HS.out (Below.refl _ _)
theorem rdDo_crash {B b : Nat} {A : Vals} {t : Nat} (hI : RI A t) (v : Value) (K : Nat) (W : World) (F : List Nat) (hR : RealAt W B b 50 A F) (hE : EnvR K W) (hK : K ≤ B) (hB : B ≤ W.heap.size) :
    Calls Tryz.prog 50 #[deskV b, .string ⟨#[99, 114, 97, 115, 104]⟩, v] W (DeskPost B b (crashV A) F W okW) := by
  obtain ⟨_, _, hg⟩ := rt_crash (B := B) (b := b) (r := 0) hI
  generalize crashV A = C at hg ⊢
  have G := hide (fun W1 (hb : Below W.heap.size W W1) => hg.at hR hE hK hB hb)
  clear hg hR hE hI
  unfold deskV
  go_enter Tryz.func50, Tryz.ntmps50
  go_wp2_with fail
  refine (G.out _ (by go_grown)).mono ?_
  rintro e w2 ⟨rfl, ⟨F', hR2, hs2⟩, hE2, hz2⟩
  have HR := hide hR2
  have HS := hide hs2
  clear hR2 hs2 hE2
  go_wp2
  go_ret2
  exact DeskPost.mk (f := 0) (by decide) rfl HR.out HS.out (Below.refl _ _)
theorem rdDo_wait {B b : Nat} {A : Vals} {t : Nat} (hI : RI A t) (v : Value) (K : Nat) (W : World) (F : List Nat) (hR : RealAt W B b 50 A F) (hE : EnvR K W) (hK : K ≤ B) (hB : B ≤ W.heap.size) :
    Calls Tryz.prog 50 #[deskV b, .string ⟨#[119, 97, 105, 116, 105, 110, 103]⟩, v] W (DeskPost B b A F W (digL (A.zs.length : Int))) := by
  have hn : numOk (A.zs.length : Int) := by
    have := hI.1.2.2.1
    exact ⟨by omega, by omega⟩
  have NK := hide hn
  have hg := rt_wait (B := B) (b := b) (A := A)
  obtain ⟨n, hnn⟩ : ∃ n, n = (A.zs.length : Int) := ⟨_, rfl⟩
  rw [← hnn] at hg NK ⊢
  have HLT := hide hK
  have G := hide (fun W1 (hb : Below W.heap.size W W1) => hg.at hR hE hK hB hb)
  clear hg hR hE hI hn hnn hK
  unfold deskV
  go_enter Tryz.func50, Tryz.ntmps50
  go_wp2_with fail
  refine (G.out _ (by go_grown)).mono ?_
  rintro e w2 ⟨rfl, ⟨F', hR2, hs2⟩, hE2, hz2⟩
  have HR := hide hR2
  have HS := hide hs2
  have HE := hide hE2
  clear hR2 hs2 hE2
  go_wp2_with fail
  obtain ⟨W3, hW3⟩ : ∃ W3, W3 = w2.alloc (.cells #[.int .i64 n] 3) := ⟨_, rfl⟩
  have ho3 : ObjAt W3 w2.heap.size 3 [.int .i64 n] := by rw [hW3]; exact objNew (by simp)
  have hb4 : Below w2.heap.size w2 W3 := by rw [hW3]; exact (Below.refl _ _).alloc (Nat.le_refl _) _
  rw [← hW3]
  have hwb : W.heap.size ≤ w2.heap.size := by simp at hz2; omega
  refine (runRow1 NK.out _ _ W3 (ho3.cell (i := 0) rfl) ho3.lt (fun X hX => (HE.out.below (hb4.trans (hX.mono hb4.size)) (by have := HLT.out; omega)).pow)).mono ?_
  rintro e w4 ⟨rfl, hb5⟩
  have HB4 := hide (hb4.trans (hb5.mono hb4.size))
  clear hW3 hb4 hb5 ho3
  go_wp2
  go_ret2
  exact DeskPost.mk (f := 0) (by decide) rfl HR.out HS.out HB4.out
end Go.Proofs.YtlnghfmcofmkjaaGreatDoor
