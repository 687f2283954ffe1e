/- run: what the package variables hold while a session goes; rows of one and of four by contract. run: the desk's ticket, pull, hello by contract. -/
import Derived.Test.YtlnghfmcofmkjaaGreatDoorRunComesProofM4
import Derived.Test.YtlnghfmcofmkjaaGreatDoorRunComesProofM37
import Derived.Test.YtlnghfmcofmkjaaGreatDoorRunComesProofM39
namespace Go.Proofs.YtlnghfmcofmkjaaGreatDoor
open Go.RowKit

theorem Tryz.powG : Tryz.prog.globalNamed "internal/strconv.uint64pow10" = some 8 := by kernel_rfl
theorem PowT.of_block {w w' : World} (h : PowT w) (hb : w'.heap[8]? = w.heap[8]?) : PowT w' := by
  unfold PowT Lib.TabIs World.var? at h ⊢
  rw [Tryz.powG] at h ⊢
  simp only [Option.bind_some] at h ⊢
  rw [hb]
  exact h
/-- is a word known; how many numbers it wants -/
def wantB (s : ByteArray) : Bool := (wantsL s.data.toList).isSome
def wantN (s : ByteArray) : Int := (((wantsL s.data.toList).getD 0 : Nat) : Int)
/-- a map's entries answer as wantsL does -/
def WantsM (es : Array MapEntry) (clock : Nat) : Prop := ∀ (W : World) (b : Nat), W.heap[b]? = some (.map es clock) → ∀ s : ByteArray, s.size ≤ 1000000 → (Instr.lookup 120 (.map (some b)) (.string s) true).run Tryz.prog W = .ok (.tuple #[.int .i64 (wantN s), .bool (wantB s)]) W
/-- what the variables hold; their blocks lie below K -/
structure EnvR (K : Nat) (w : World) : Prop where
  pow : PowT w
  ev : ErrVars w
  mx : ∃ m, w.cell? ⟨3, 0, none⟩ = some (.int .i64 m)
  et : ErrT w
  un : w.cell? ⟨1, 0, none⟩ = some (.iface 82 (.int .i64 2))
  wa : ∃ bm es clock, w.cell? ⟨0, 0, none⟩ = some (.map (some bm)) ∧ bm < K ∧ w.heap[bm]? = some (.map es clock) ∧ WantsM es clock
  lt : 8 + 1 ≤ K
theorem EnvR.below {K B : Nat} {w w' : World} (h : EnvR K w) (hb : Below B w w') (hB : K ≤ B) : EnvR K w' := by
  obtain ⟨⟨t1, p1, e1⟩, ⟨t2, p2, e2⟩⟩ := h.ev
  obtain ⟨m, hm⟩ := h.mx
  obtain ⟨bm, es, clock, g1, g2, g3, g4⟩ := h.wa
  have hl := h.lt
  have hc : ∀ b o, b < 8 + 1 → w'.cell? ⟨b, o, none⟩ = w.cell? ⟨b, o, none⟩ := fun b o hbl => hb.cell (p := ⟨b, o, none⟩) (show b < B by omega)
  exact ⟨h.pow.of_block (hb.block _ (by omega)), ⟨⟨t1, p1, (hc _ _ (by decide)).trans e1⟩, ⟨t2, p2, (hc _ _ (by decide)).trans e2⟩⟩, ⟨m, (hc _ _ (by decide)).trans hm⟩, (hc _ _ (by decide)).trans h.et, (hc _ _ (by decide)).trans h.un,
    ⟨bm, es, clock, (hc _ _ (by decide)).trans g1, g2, (hb.block _ (by omega)).trans g3, g4⟩, hl⟩
theorem runRow4 {a b c d : Int} (hk : rowOk a b c d) (bk cap : Nat) (w : World) (h0 : w.cell? ⟨bk, 0, none⟩ = some (.int .i64 a)) (h1 : w.cell? ⟨bk, 1, none⟩ = some (.int .i64 b)) (h2 : w.cell? ⟨bk, 2, none⟩ = some (.int .i64 c)) (h3 : w.cell? ⟨bk, 3, none⟩ = some (.int .i64 d)) (hbk : bk < w.heap.size) (htab : ∀ W, Below w.heap.size w W → PowT W) :
    Calls Tryz.prog 68 #[.slice (some ⟨bk, 0, none⟩) 4 cap] w fun e w' => e = .returned (.string (rowB [a, b, c, d])) ∧ Below w.heap.size w w' :=
  runRow (ns := [a, b, c, d]) (by intro n hx; simp at hx; rcases hx with rfl | rfl | rfl | rfl; exact hk.1; exact hk.2.1; exact hk.2.2.1; exact hk.2.2.2) (by simp) (by simp) bk cap w
    (fun j hj => by
      match j, hj with
      | 0, _ => exact h0
      | 1, _ => exact h1
      | 2, _ => exact h2
      | 3, _ => exact h3) hbk htab
theorem runRow1 {a : Int} (hk : numOk a) (bk cap : Nat) (w : World) (h0 : w.cell? ⟨bk, 0, none⟩ = some (.int .i64 a)) (hbk : bk < w.heap.size) (htab : ∀ W, Below w.heap.size w W → PowT W) :
    Calls Tryz.prog 68 #[.slice (some ⟨bk, 0, none⟩) 1 cap] w fun e w' => e = .returned (.string (rowB [a])) ∧ Below w.heap.size w w' :=
  runRow (ns := [a]) (by intro n hx; simp at hx; rcases hx with rfl; exact hk) (by simp) (by simp) bk cap w
    (fun j hj => by
      match j, hj with
      | 0, _ => exact h0) hbk htab
theorem rowB_size (ns : List Int) (hk : ∀ n ∈ ns, numOk n) : (rowB ns).size ≤ 7 * ns.length := by
  have h1 := rowL_le ns hk
  have h2 : (rowB ns).size = (rowL ns).length := by unfold rowB; rw [← List.size_toArray]; rfl
  omega
theorem rowB_size4 {a b c d : Int} (hk : rowOk a b c d) : (rowB [a, b, c, d]).size ≤ 28 :=
  rowB_size [a, b, c, d] (by intro n hx; simp at hx; rcases hx with rfl | rfl | rfl | rfl; exact hk.1; exact hk.2.1; exact hk.2.2.1; exact hk.2.2.2)
theorem rowB_size1 {a : Int} (hk : numOk a) : (rowB [a]).size ≤ 7 := rowB_size [a] (by intro n hx; simp at hx; rcases hx with rfl; exact hk)
theorem connN_num {s n : Int} (h : connB s n = true) : numOk (connN s n) := by
  simp only [connB, decide_eq_true_eq] at h
  unfold connN xn
  have : (4096 * s + n).toNat ^^^ 21845 < 2 ^ 16 := Nat.xor_lt_two_pow (by omega) (by decide)
  exact ⟨by omega, by omega⟩
/-- the name of an error by contract -/
def nameB (e : Int) : ByteArray := ⟨(nameL e).toArray⟩
theorem errnoError {c : Int} (h0 : 0 ≤ c) (h1 : c < 10) (w : World) : Calls Tryz.prog 37 #[.int .i64 c] w fun e w' => e = .returned (.string (nameB c)) ∧ w = w' := by
  have hc : c = 0 ∨ c = 1 ∨ c = 2 ∨ c = 3 ∨ c = 4 ∨ c = 5 ∨ c = 6 ∨ c = 7 ∨ c = 8 ∨ c = 9 := by omega
  clear h0 h1
  rcases hc with rfl | rfl | rfl | rfl | rfl | rfl | rfl | rfl | rfl | rfl
  all_goals
    go_enter Tryz.func37, Tryz.ntmps37
    go_wp2
    go_ret
    exact ⟨rfl, rfl⟩
/-- what a deed of the desk gives: the text of what is answered, or the error of that name; the server behind it -/
def DeskPost (B b : Nat) (C : Vals) (F : List Nat) (W : World) (ans : List UInt8) (e : Ending) (w' : World) : Prop :=
  (∃ s f, e = .returned (.tuple #[.string s, errV f]) ∧ (0 ≤ f ∧ f < 10) ∧ ans = (if f = 0 then s.data.toList else nameL f)) ∧ ∃ F', RealAt w' B b 50 C F' ∧ SVst F F' W w'
/-- a deed of the desk from A to C, by which ans is answered -/
def DeskGo (f : FuncId) (args : Array Value) (B b : Nat) (A C : Vals) (ans : List UInt8) : Prop :=
  ∀ K W F, RealAt W B b 50 A F → EnvR K W → K ≤ B → B ≤ W.heap.size → Calls Tryz.prog f args W (DeskPost B b C F W ans)
theorem DeskPost.mk {B b : Nat} {C : Vals} {F F' : List Nat} {W w w' : World} {ans : List UInt8} {s : ByteArray} {f : Int} (hf : 0 ≤ f ∧ f < 10) (ha : ans = (if f = 0 then s.data.toList else nameL f)) (hR : RealAt w B b 50 C F') (hs : SVst F F' W w) (hb : Below w.heap.size w w') : DeskPost B b C F W ans (.returned (.tuple #[.string s, errV f])) w' :=
  ⟨⟨s, f, rfl, hf, ha⟩, F', hR.kept (Kept.of_below hb []) (by simp), hs.post hb⟩
/-- a deed of the server, between boxes that were laid ahead of it -/
theorem GoS.at {f : FuncId} {args : Array Value} {B b : Nat} {A C : Vals} {res : Value} (h : GoS f args B b A C res) {K : Nat} {W W1 : World} {F : List Nat} (hR : RealAt W B b 50 A F) (hE : EnvR K W) (hK : K ≤ B) (hB : B ≤ W.heap.size) (hb : Below W.heap.size W W1) :
    Calls Tryz.prog f args W1 fun x w' => x = .returned res ∧ (∃ F', RealAt w' B b 50 C F' ∧ SVst F F' W w') ∧ EnvR K w' ∧ W1.heap.size ≤ w'.heap.size := by
  have hR1 : RealAt W1 B b 50 A F := hR.kept (Kept.of_below hb []) (by simp)
  have hE1 : EnvR K W1 := hE.below hb (by omega)
  refine (h W1 F hR1 (by have := hb.size; omega)).mono ?_
  rintro x w' ⟨rfl, F', hn, hs⟩
  exact ⟨rfl, ⟨F', hn, hs.pre hb⟩, hE1.below (hs.1.below (B := B) (by have := hb.size; omega) (fun y hy => (hR1.lt y hy).1)) hK, hs.1.size⟩
end Go.Proofs.YtlnghfmcofmkjaaGreatDoor

namespace Go.Proofs.YtlnghfmcofmkjaaGreatDoor
open Go.RowKit

/-- a desk -/
def deskV (b : Nat) : Value := .agg #[.pointer (some ⟨b, 0, none⟩)]
set_option maxHeartbeats 4000000 in
theorem rdTicket {B b : Nat} {A : Vals} {t : Nat} (hI : RI A t) (ht : t < 4000) (u : Int) :
    DeskGo 64 #[deskV b, .int .i64 u] B b A (ticketR A u).2 (ticketR A u).1 := by
  intro K W F hR hE hK hB
  obtain ⟨_, c0, c1, c2, c3, f, htx, hf, hk, _, hg⟩ := rt_ticket (B := B) (b := b) (r := 0) hI ht u
  generalize (ticketR A u).2 = C at hg ⊢
  generalize (ticketR A u).1 = ans at htx ⊢
  have G := hide (fun W1 (hb : Below W.heap.size W W1) => hg.at hR hE hK hB hb)
  have HT := hide htx
  have HK := hide hk
  have HLT := hide hK
  have HFF := hide hf
  obtain ⟨F0, hF0⟩ : ∃ F0, F0 = F := ⟨F, rfl⟩
  rw [← hF0] at G ⊢
  clear hg hR hE hI htx hk hF0 hK hf
  unfold deskV
  go_enter Tryz.func64, Tryz.ntmps64
  go_wp2_with fail
  refine (G.out _ (by go_grown)).mono ?_
  rintro e w2 ⟨rfl, ⟨F', hR2, hs2⟩, hE2, hz2⟩
  have HR := hide hR2
  have HS := hide hs2
  have HE := hide hE2
  clear hR2 hs2 hE2
  go_wp2_with fail
  obtain ⟨W3, hW3⟩ : ∃ W3, W3 = (w2.alloc (.cells #[.int .i64 c0, .int .i64 c1, .int .i64 c2, .int .i64 c3] 67)).alloc (.cells #[.int .i64 c0, .int .i64 c1, .int .i64 c2, .int .i64 c3] 3) := ⟨_, rfl⟩
  have ho3 : ObjAt W3 (w2.heap.size + 1) 3 [.int .i64 c0, .int .i64 c1, .int .i64 c2, .int .i64 c3] := by rw [hW3]; exact objNew (by simp)
  have hb3 : Below w2.heap.size w2 W3 := by rw [hW3]; exact ((Below.refl _ _).alloc (Nat.le_refl _) _).alloc (by simp) _
  rw [← hW3]
  have hwb : W.heap.size ≤ w2.heap.size := by simp at hz2; omega
  refine (runRow4 HK.out _ _ W3 (ho3.cell (i := 0) rfl) (ho3.cell (i := 1) rfl) (ho3.cell (i := 2) rfl) (ho3.cell (i := 3) rfl) ho3.lt (fun X hX => (HE.out.below (hb3.trans (hX.mono hb3.size)) (by have := HLT.out; omega)).pow)).mono ?_
  rintro e w4 ⟨rfl, hb4⟩
  have HB4 := hide (hb3.trans (hb4.mono hb3.size))
  clear hW3 hb3 hb4 ho3
  go_wp2
  go_ret2
  exact DeskPost.mk HFF.out (by rw [HT.out]; unfold rowB; rfl) HR.out HS.out HB4.out
set_option maxHeartbeats 4000000 in
theorem rdPull {B b : Nat} {A : Vals} {t : Nat} (hI : RI A t) (ht : t < 4000) :
    DeskGo 65 #[deskV b] B b A (pullR A).2 (pullR A).1 := by
  intro K W F hR hE hK hB
  obtain ⟨_, x0, x1, f, htx, hf, hc, hg⟩ := rt_pull (B := B) (b := b) hI ht
  generalize (pullR A).2 = C at hg ⊢
  generalize (pullR A).1 = ans at htx ⊢
  have G := hide (fun W1 (hb : Below W.heap.size W W1) => hg.at hR hE hK hB hb)
  have HT := hide htx
  have HLT := hide hK
  have HFF := hide hf
  by_cases h0 : f = 0
  · subst h0
    have hcb := hc rfl
    have CI := hide (fun W => connIs x0 x1 W hcb)
    have NK := hide (connN_num hcb)
    have e0 : errV 0 = .nilIface := rfl
    rw [e0] at G
    clear hg hR hE hI htx hK hf hc hcb e0
    unfold deskV
    go_enter Tryz.func65, Tryz.ntmps65
    go_wp2_with fail
    refine (G.out _ (by go_grown)).mono ?_
    rintro e w2 ⟨rfl, ⟨F', hR2, hs2⟩, hE2, hz2⟩
    have HR := hide hR2
    have HS := hide hs2
    have HE := hide hE2
    clear hR2 hs2 hE2
    go_wp2_with fail
    refine (CI.out _).mono ?_
    rintro e w3 ⟨rfl, hb3⟩
    have HB3 := hide (((Below.refl w2.heap.size w2).alloc (Nat.le_refl _) _).trans (hb3.mono (by simp)))
    clear hb3
    go_wp2_with fail
    obtain ⟨W3, hW3⟩ : ∃ W3, W3 = w3.alloc (.cells #[.int .i64 (connN x0 x1)] 3) := ⟨_, rfl⟩
    have ho3 : ObjAt W3 w3.heap.size 3 [.int .i64 (connN x0 x1)] := by rw [hW3]; exact objNew (by simp)
    have hb4 : Below w2.heap.size w2 W3 := by rw [hW3]; exact HB3.out.alloc HB3.out.size _
    rw [← hW3]
    have hwb : W.heap.size ≤ w2.heap.size := by simp at hz2; omega
    refine (runRow1 NK.out _ _ W3 (ho3.cell (i := 0) rfl) ho3.lt (fun X hX => (HE.out.below (hb4.trans (hX.mono hb4.size)) (by have := HLT.out; omega)).pow)).mono ?_
    rintro e w4 ⟨rfl, hb5⟩
    have HB4 := hide (hb4.trans (hb5.mono hb4.size))
    clear hW3 hb4 hb5 ho3
    go_wp2
    go_ret2
    exact DeskPost.mk (f := 0) HFF.out (by rw [HT.out]; rfl) HR.out HS.out HB4.out
  · have hne : (f != 0) = true := bne_iff_ne.2 h0
    have H0 := hide h0
    clear hg hR hE hI htx hK hf hc h0
    unfold deskV
    go_enter Tryz.func65, Tryz.ntmps65
    go_wp2_with fail
    refine (G.out _ (by go_grown)).mono ?_
    rintro e w2 ⟨rfl, ⟨F', hR2, hs2⟩, hE2, hz2⟩
    have HR := hide hR2
    have HS := hide hs2
    have HE := hide hE2
    clear hR2 hs2 hE2
    go_wp2
    go_ret2
    exact DeskPost.mk HFF.out (by rw [HT.out, if_neg H0.out, if_neg H0.out]) HR.out HS.out (by go_grown)
set_option maxHeartbeats 8000000 in
theorem rdHello {B b : Nat} {A : Vals} {t : Nat} (hI : RI A t) (ht : t < 4000) (a t0 t1 t2 t3 now : Int) :
    DeskGo 63 #[deskV b, plH a t0 t1 t2 t3 0 0 0 0 ⟨#[]⟩, .int .i64 now] B b A (helloR A a t0 t1 t2 t3 now).2 (helloR A a t0 t1 t2 t3 now).1 := by
  intro K W F hR hE hK hB
  obtain ⟨_, k0, k1, k2, k3, k4, k5, k6, f, htx, hf, hk, hk0, hcb, _, hg⟩ := rt_hello (B := B) (b := b) (r := 0) hI ht a t0 t1 t2 t3 now
  generalize (helloR A a t0 t1 t2 t3 now).2 = C at hg ⊢
  generalize (helloR A a t0 t1 t2 t3 now).1 = ans at htx ⊢
  have G := hide (fun W1 (hb : Below W.heap.size W W1) => hg.at hR hE hK hB hb)
  unfold plH plA at G
  have HT := hide htx
  have HLT := hide hK
  have HFF := hide hf
  have HK := hide hk
  by_cases h0 : f = 0
  · subst h0
    have e0 : errV 0 = .nilIface := rfl
    rw [e0] at G
    have CI := hide (fun W => connIs k5 k6 W hcb)
    have NK := hide (connN_num hcb)
    have hkc : k0 = 0 ∨ k0 = 1 ∨ k0 = 2 := by omega
    clear hg hR hE hI htx hK hf hk hk0 hcb e0
    rcases hkc with rfl | rfl | rfl
    · unfold deskV plH
      go_enter Tryz.func63, Tryz.ntmps63
      go_wp2_with fail
      refine (G.out _ (by go_grown)).mono ?_
      rintro e w2 ⟨rfl, ⟨F', hR2, hs2⟩, hE2, hz2⟩
      have HR := hide hR2
      have HS := hide hs2
      have HE := hide hE2
      clear hR2 hs2 hE2
      go_wp2_with fail
      obtain ⟨W3, hW3⟩ : ∃ W3, W3 = (w2.alloc (.cells #[.int .i64 0, .int .i64 k1, .int .i64 k2, .int .i64 k3, .int .i64 k4, .int .i64 k5, .int .i64 k6, .bool false] 101)).alloc (.cells #[.int .i64 k1, .int .i64 k2, .int .i64 k3, .int .i64 k4] 3) := ⟨_, rfl⟩
      have ho3 : ObjAt W3 (w2.heap.size + 1) 3 [.int .i64 k1, .int .i64 k2, .int .i64 k3, .int .i64 k4] := by rw [hW3]; exact objNew (by simp)
      have hb3 : Below w2.heap.size w2 W3 := by rw [hW3]; exact ((Below.refl _ _).alloc (Nat.le_refl _) _).alloc (by simp) _
      rw [← hW3]
      have hwb : W.heap.size ≤ w2.heap.size := by simp at hz2; omega
      refine (runRow4 HK.out _ _ W3 (ho3.cell (i := 0) rfl) (ho3.cell (i := 1) rfl) (ho3.cell (i := 2) rfl) (ho3.cell (i := 3) rfl) ho3.lt (fun X hX => (HE.out.below (hb3.trans (hX.mono hb3.size)) (by have := HLT.out; omega)).pow)).mono ?_
      rintro e w4 ⟨rfl, hb4⟩
      have HB4 := hide (hb3.trans (hb4.mono hb3.size))
      have hrs := rowB_size4 HK.out
      clear hW3 hb3 hb4 ho3
      go_wp2
      exact bodyPost_ret (v := .tuple #[.string (⟨#[114, 101, 116, 114, 121, 32]⟩ ++ rowB [k1, k2, k3, k4]), .nilIface]) (by simp [results, Tryz.results63, go_sem]) rfl (DeskPost.mk (f := 0) HFF.out (by rw [HT.out]; simp [rowB, retW]) HR.out HS.out HB4.out)
    · unfold deskV plH
      go_enter Tryz.func63, Tryz.ntmps63
      go_wp2_with fail
      refine (G.out _ (by go_grown)).mono ?_
      rintro e w2 ⟨rfl, ⟨F', hR2, hs2⟩, hE2, hz2⟩
      have HR := hide hR2
      have HS := hide hs2
      have HE := hide hE2
      clear hR2 hs2 hE2
      go_wp2_with fail
      refine (CI.out _).mono ?_
      rintro e w3 ⟨rfl, hb3⟩
      have HB3 := hide (((Below.refl w2.heap.size w2).alloc (Nat.le_refl _) _).trans (hb3.mono (by simp)))
      clear hb3
      go_wp2_with fail
      obtain ⟨W3, hW3⟩ : ∃ W3, W3 = w3.alloc (.cells #[.int .i64 (connN k5 k6)] 3) := ⟨_, rfl⟩
      have ho3 : ObjAt W3 w3.heap.size 3 [.int .i64 (connN k5 k6)] := by rw [hW3]; exact objNew (by simp)
      have hb4 : Below w2.heap.size w2 W3 := by rw [hW3]; exact HB3.out.alloc HB3.out.size _
      rw [← hW3]
      have hwb : W.heap.size ≤ w2.heap.size := by simp at hz2; omega
      refine (runRow1 NK.out _ _ W3 (ho3.cell (i := 0) rfl) ho3.lt (fun X hX => (HE.out.below (hb4.trans (hX.mono hb4.size)) (by have := HLT.out; omega)).pow)).mono ?_
      rintro e w4 ⟨rfl, hb5⟩
      have HB4 := hide (hb4.trans (hb5.mono hb4.size))
      have hrs := rowB_size1 NK.out
      clear hW3 hb4 hb5 ho3
      go_wp2
      exact bodyPost_ret (v := .tuple #[.string (⟨#[119, 101, 108, 99, 111, 109, 101, 32]⟩ ++ rowB [connN k5 k6]), .nilIface]) (by simp [results, Tryz.results63, go_sem]) rfl (DeskPost.mk (f := 0) HFF.out (by rw [HT.out]; simp [rowB, rowL, welW]) HR.out HS.out HB4.out)
    · unfold deskV plH
      go_enter Tryz.func63, Tryz.ntmps63
      go_wp2_with fail
      refine (G.out _ (by go_grown)).mono ?_
      rintro e w2 ⟨rfl, ⟨F', hR2, hs2⟩, hE2, hz2⟩
      have HR := hide hR2
      have HS := hide hs2
      have HE := hide hE2
      clear hR2 hs2 hE2
      go_wp2
      go_ret2
      exact DeskPost.mk (f := 0) HFF.out (by rw [HT.out]; rfl) HR.out HS.out (by go_grown)
  · have hne : (f != 0) = true := bne_iff_ne.2 h0
    have H0 := hide h0
    clear hg hR hE hI htx hK hf hk hk0 hcb h0
    unfold deskV plH
    go_enter Tryz.func63, Tryz.ntmps63
    go_wp2_with fail
    refine (G.out _ (by go_grown)).mono ?_
    rintro e w2 ⟨rfl, ⟨F', hR2, hs2⟩, hE2, hz2⟩
    have HR := hide hR2
    have HS := hide hs2
    have HE := hide hE2
    clear hR2 hs2 hE2
    go_wp2
    go_ret2
    exact DeskPost.mk HFF.out (by rw [HT.out, if_pos H0.out, if_neg H0.out]) HR.out HS.out (by go_grown)
end Go.Proofs.YtlnghfmcofmkjaaGreatDoor
