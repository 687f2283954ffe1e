/- conn: Right, Is, Number, Of, Route by contracts. A session's deeds over a server's plain state: what each is answered, and the server behind it. -/
import Derived.Test.YtlnghfmcofmkjaaGreatDoorRunAnswersProofM2
import Derived.Test.YtlnghfmcofmkjaaGreatDoorRunAnswersProofM5
import Derived.Test.YtlnghfmcofmkjaaGreatDoorObj
import Derived.Handy
import Derived.Deep.QuietTactic
import Derived.BigQuiet
import Derived.Test.YtlnghfmcofmkjaaGreatDoorPlaysP
import Derived.Test.YtlnghfmcofmkjaaGreatDoorRunAnswersProofM3
namespace Go.Proofs.YtlnghfmcofmkjaaGreatDoor
open Go.RowKit

theorem bits_xor_i64 (a b : Nat) (ha : a < 9223372036854775808) (hb : b < 9223372036854775808) :
    bits .xor .i64 (a : Int) (b : Int) = ((a ^^^ b : Nat) : Int) := by
  have hx : a ^^^ b < 2 ^ 63 := Nat.xor_lt_two_pow (by omega) (by omega)
  have h1 : (BitVec.ofInt 64 (a : Int)).toNat = a := by
    rw [BitVec.ofInt_natCast, BitVec.toNat_ofNat]; exact Nat.mod_eq_of_lt (by omega)
  have h2 : (BitVec.ofInt 64 (b : Int)).toNat = b := by
    rw [BitVec.ofInt_natCast, BitVec.toNat_ofNat]; exact Nat.mod_eq_of_lt (by omega)
  show IntKind.i64.wrap ((BitVec.ofInt 64 (a : Int) ^^^ BitVec.ofInt 64 (b : Int)).toNat : Int) = _
  rw [BitVec.toNat_xor, h1, h2, IntKind.wrap_i64]
  omega

/-- its number -/
def connN (s n : Int) : Int := (xn (4096 * s + n).toNat : Int)

theorem connIs (s n : Int) (w : World) (h : connB s n = true) : Calls Tryz.prog 88 #[.agg #[.int .i64 s, .int .i64 n]] w fun e w' => e = .returned (.int .i64 (connN s n)) ∧ Below w.heap.size w w' := by
  simp only [connB, decide_eq_true_eq] at h
  obtain ⟨h1, h2, h3, h4⟩ := h
  have hx := bits_xor_i64 (4096 * s + n).toNat 21845 (by omega) (by omega)
  rw [show (((4096 * s + n).toNat : Nat) : Int) = 4096 * s + n by omega] at hx
  have hX := hide hx
  clear hx
  go_enter Tryz.func88, Tryz.ntmps88
  go_wp2
  go_ret
  exact ⟨retI hX.out, by go_grown⟩

/-- what Number tells -/
def connNum (s n : Int) : Int × Int := if connB s n then (connN s n, 0) else (0, 1)
theorem connN_in (s n : Int) (h : connB s n = true) : 0 ≤ connN s n ∧ connN s n < 65536 := by
  simp only [connB, decide_eq_true_eq] at h
  have := xn_lt (4096 * s + n).toNat (by omega)
  unfold connN; omega

/-- what Of tells -/
def connOfN (n : Int) : Int × Int × Int := if 0 ≤ n ∧ n < 65536 then ((xn n.toNat : Int) / 4096, (xn n.toNat : Int) % 4096, 0) else (0, 0, 1)
/-- where Route leads -/
def routeN (n sh : Int) : Int × Int := if 0 ≤ n ∧ n < 65536 ∧ 1 ≤ sh ∧ sh ≤ 16 then ((connOfN n).1 % sh, 0) else (0, 1)
theorem connOf_back (s n : Int) (h : connB s n = true) : connOfN (connN s n) = (s, n, 0) := by
  have h0 := connN_in s n h
  unfold connOfN
  rw [if_pos h0]
  have e : (connN s n).toNat = xn (4096 * s + n).toNat := by unfold connN; omega
  rw [e, xn_xn]
  simp only [connB, decide_eq_true_eq] at h
  have e1 : (((4096 * s + n).toNat : Nat) : Int) = 4096 * s + n := by omega
  rw [e1]
  have e2 : (4096 * s + n) / 4096 = s := by omega
  have e3 : (4096 * s + n) % 4096 = n := by omega
  rw [e2, e3]

theorem connOf_right (n : Int) (h0 : 0 ≤ n) (h1 : n < 65536) : ∃ s m, connOfN n = (s, m, 0) ∧ connB s m = true ∧ connN s m = n := by
  have h2 := xn_lt n.toNat (by omega)
  refine ⟨_, _, by unfold connOfN; rw [if_pos ⟨h0, h1⟩], ?_, ?_⟩
  · simp only [connB, decide_eq_true_eq]; omega
  · unfold connN
    have e : (4096 * (((xn n.toNat : Nat) : Int) / 4096) + ((xn n.toNat : Nat) : Int) % 4096).toNat = xn n.toNat := by omega
    rw [e, xn_xn]; omega
theorem connN_inj {s n t m : Int} (h : connB s n = true) (k : connB t m = true) (e : connN s n = connN t m) : s = t ∧ n = m := by
  have h1 := connOf_back s n h
  have h2 := connOf_back t m k
  rw [e, h2] at h1
  simp only [Prod.mk.injEq, and_true] at h1
  exact ⟨h1.1.symm, h1.2.symm⟩
end Go.Proofs.YtlnghfmcofmkjaaGreatDoor

namespace Go.Proofs.YtlnghfmcofmkjaaGreatDoor
open Go.RowKit

def okW : List UInt8 := [111, 107]
def badW : List UInt8 := [98, 97, 100]
def busyW : List UInt8 := [98, 117, 115, 121]
def welW : List UInt8 := [119, 101, 108, 99, 111, 109, 101, 32]
def retW : List UInt8 := [114, 101, 116, 114, 121, 32]
/-- what is answered to a hello without ticket and early bytes -/
def kindR (A : Vals) (a t0 t1 t2 t3 now : Int) : Int × Bool × Int := ansN A.e A.k A.o a t0 t1 t2 t3 0 0 0 0 ⟨#[]⟩ (A.zs.length : Int) now 50
def helloR (A : Vals) (a t0 t1 t2 t3 now : Int) : List UInt8 × Vals :=
  if (kindR A a t0 t1 t2 t3 now).2.2 ≠ 0 then (nameL (kindR A a t0 t1 t2 t3 now).2.2, A)
  else if (kindR A a t0 t1 t2 t3 now).1 = 0 then (retW ++ rowL [A.e, a, now, tagOf A.k [1, a, now]], A)
  else if (kindR A a t0 t1 t2 t3 now).1 = 2 then (busyW, A)
  else (welW ++ digL (connN 0 A.cn), { A with cn := A.cn + 1, zs := A.zs ++ [(0, A.cn)] })
def ticketR (A : Vals) (u : Int) : List UInt8 × Vals :=
  if tmB u = false then (nameL 1, A)
  else if (blkNext A.n A.m).2.1 ≠ 0 then (nameL 4, A)
  else (rowL [A.e, A.n, u, tagOf A.k [2, A.n, u]], { A with n := (blkNext A.n A.m).2.2.1, m := (blkNext A.n A.m).2.2.2, many := A.many + 1 })
def pullR (A : Vals) : List UInt8 × Vals := match A.zs with
  | [] => (nameL 5, A)
  | x :: l => (digL (connN x.1 x.2), { A with zs := l })
def turnR (A : Vals) : List UInt8 × Vals := if A.e < 100 then (okW, { A with e := A.e + 1, k := tagOf A.k [A.e + 1], o := A.k }) else (nameL 4, A)
def crashV (A : Vals) : Vals := { A with n := A.m, zs := [], z1 := A.z2 }
/-- how many numbers a word wants -/
def wantsL (w : List UInt8) : Option Nat :=
  if w = [104, 101, 108, 108, 111] then some 2 else if w = [97, 103, 97, 105, 110] then some 6 else if w = [116, 105, 99, 107, 101, 116] then some 1 else if w = [112, 117, 108, 108] then some 0
  else if w = [116, 117, 114, 110] then some 0 else if w = [99, 114, 97, 115, 104] then some 0 else if w = [119, 97, 105, 116, 105, 110, 103] then some 0 else none
/-- a word with its numbers -/
def doR (A : Vals) (w : List UInt8) (n : List Nat) : List UInt8 × Vals :=
  if w = [104, 101, 108, 108, 111] then helloR A (n.getD 0 0 : Nat) 0 0 0 0 (n.getD 1 0 : Nat)
  else if w = [97, 103, 97, 105, 110] then helloR A (n.getD 0 0 : Nat) (n.getD 1 0 : Nat) (n.getD 2 0 : Nat) (n.getD 3 0 : Nat) (n.getD 4 0 : Nat) (n.getD 5 0 : Nat)
  else if w = [116, 105, 99, 107, 101, 116] then ticketR A (n.getD 0 0 : Nat)
  else if w = [112, 117, 108, 108] then pullR A
  else if w = [116, 117, 114, 110] then turnR A
  else if w = [99, 114, 97, 115, 104] then (okW, crashV A)
  else (digL (A.zs.length : Int), A)
/-- what a line asks for: a word that is known, with as many numbers as it wants -/
def readL (s : List UInt8) : Option (List UInt8 × List Nat) := match cutL 32 s with
  | [] => none
  | w :: ws => match wantsL w, numsL ws with
    | some m, some n => if n.length = m then some (w, n) else none
    | _, _ => none
/-- a line -/
def lineR (A : Vals) (s : List UInt8) : List UInt8 × Vals := match readL s with
  | none => (badW, A)
  | some (w, n) => doR A w n
/-- lines -/
def linesR : Vals → List (List UInt8) → List UInt8
  | _, [] => []
  | A, l :: ls => (lineR A l).1 ++ 10 :: linesR (lineR A l).2 ls
def linesV : Vals → List (List UInt8) → Vals
  | A, [] => A
  | A, l :: ls => linesV (lineR A l).2 ls
/-- the server at first -/
def firstV : Vals := { e := 0, k := tagOf 7 [0], o := 0, cn := 0, n := 0, m := 0, many := 0, zs := [], z1 := [], z2 := [] }

/-- what holds behind t lines -/
def RI (A : Vals) (t : Nat) : Prop := PI 50 A t ∧ ∀ x ∈ A.zs, x.1 = 0 ∧ 0 ≤ x.2
theorem RI.more {A : Vals} {t : Nat} (h : RI A t) : RI A (t + 1) := ⟨h.1.more, h.2⟩
theorem RI.first : RI firstV 0 := by
  refine ⟨⟨?_, rfl, by decide, by simp [firstV], by decide, by decide, by decide, by decide, by decide⟩, by simp [firstV]⟩
  have := tagOf_in 7 [0]
  unfold ringE
  have h1 : inB firstV.k = true := inB_true.2 this
  have h2 : (epB firstV.e && inB firstV.k && inB firstV.o) = true := by rw [h1]; rfl
  rw [h2]
  rfl
/-- the contract of a deed of the server at b, from A to C -/
def GoS (f : FuncId) (args : Array Value) (B b : Nat) (A C : Vals) (res : Value) : Prop := ∀ W F, RealAt W B b 50 A F → B ≤ W.heap.size → Calls Tryz.prog f args W fun x w' => x = .returned res ∧ ∃ F', RealAt w' B b 50 C F' ∧ SVst F F' W w'
/-- the contract of a deed of the document's server at r, from A to C -/
def GoD (f : FuncId) (args : Array Value) (r : Nat) (A C : Vals) (res : Value) : Prop := ∀ W G, RefAt W r 50 A G → Calls Tryz.prog f args W fun x w' => x = .returned res ∧ ∃ G', RefAt w' r 50 C G' ∧ SVst G G' W w'
theorem goS_below {f : FuncId} {args : Array Value} {B b : Nat} {A : Vals} {res : Value} (h : ∀ W F, RealAt W B b 50 A F → Calls Tryz.prog f args W fun x w' => x = .returned res ∧ Below W.heap.size W w') : GoS f args B b A A res := by
  intro W F hR _
  refine (h W F hR).mono ?_
  rintro x w' ⟨rfl, hb⟩
  exact ⟨rfl, F, hR.kept (Kept.of_below hb []) (by simp), SVst.of_below hb⟩
theorem goD_below {f : FuncId} {args : Array Value} {r : Nat} {A : Vals} {res : Value} (h : ∀ W G, RefAt W r 50 A G → Calls Tryz.prog f args W fun x w' => x = .returned res ∧ Below W.heap.size W w') : GoD f args r A A res := by
  intro W G hR
  refine (h W G hR).mono ?_
  rintro x w' ⟨rfl, hb⟩
  exact ⟨rfl, G, hR.kept (Kept.of_below hb []) (by simp), SVst.of_below hb⟩
theorem ok0 : numOk 0 := ⟨by decide, by decide⟩
/-- what a row of four holds -/
def rowOk (a b c d : Int) : Prop := numOk a ∧ numOk b ∧ numOk c ∧ numOk d
theorem tag_ok (k : Int) (l : List Int) : numOk (tagOf k l) := by have := tagOf_in k l; exact ⟨this.1, by omega⟩
theorem ansN_code {e k o a t0 t1 t2 t3 u0 u1 u2 u3 : Int} {s : ByteArray} {wt now li n c : Int} {b : Bool} (h : ansN e k o a t0 t1 t2 t3 u0 u1 u2 u3 s wt now li = (n, b, c)) : 0 ≤ c ∧ c < 10 := by
  have h1 : 0 ≤ ringE e k o ∧ ringE e k o < 10 := by unfold ringE; split <;> (try split) <;> omega
  have h2 : ∀ x y, 0 ≤ (needsOf wt x y).2 ∧ (needsOf wt x y).2 < 10 := by intro x y; unfold needsOf; (repeat' split) <;> decide
  have h3 := h2 (rightB e k o t0 t1 t2 t3 a now li) (oldB e k o u0 u1 u2 u3 now)
  have hc : c = (ansN e k o a t0 t1 t2 t3 u0 u1 u2 u3 s wt now li).2.2 := by rw [h]
  rw [hc]
  unfold ansN
  split
  · exact h1
  · split
    · exact ⟨by decide, by decide⟩
    · split
      · exact h3
      · exact (by decide : (0 : Int) ≤ 0 ∧ (0 : Int) < 10)
/-- a ticket -/
theorem rt_ticket {B b r : Nat} {A : Vals} {t : Nat} (hI : RI A t) (ht : t < 4000) (u : Int) : RI (ticketR A u).2 (t + 1) ∧ ∃ c0 c1 c2 c3 f, (ticketR A u).1 = (if f = 0 then rowL [c0, c1, c2, c3] else nameL f) ∧ (0 ≤ f ∧ f < 10) ∧ rowOk c0 c1 c2 c3 ∧
    GoD 20 #[.pointer (some ⟨r, 0, none⟩), .int .i64 u] r A (ticketR A u).2 (.tuple #[.agg #[.int .i64 c0, .int .i64 c1, .int .i64 c2, .int .i64 c3], .int .i64 f]) ∧
    GoS 89 #[.pointer (some ⟨b, 0, none⟩), .int .i64 u] B b A (ticketR A u).2 (.tuple #[.agg #[.int .i64 c0, .int .i64 c1, .int .i64 c2, .int .i64 c3], errV f]) := by
  have hI' := hI.more
  obtain ⟨⟨hr, hli, h8, hlt, hcn, hnm, hmy, hz1, hz2⟩, h00⟩ := hI
  have z4 : rowOk 0 0 0 0 := ⟨ok0, ok0, ok0, ok0⟩
  cases hu : tmB u
  · have e : ticketR A u = (nameL 1, A) := by unfold ticketR; rw [if_pos hu]
    rw [e]
    refine ⟨hI', 0, 0, 0, 0, 1, rfl, by decide, z4, goD_below (fun W G _ => rsTicket_bad hu W), goS_below ?_⟩
    rintro W F ⟨q, bi, bb, bv, v, va, vb, h1, _⟩
    exact svTicket_bad (c := 1) (by unfold tkmE; rw [if_neg (by simp [hr]), hu]; rfl) (by decide) W h1
  · rcases blkNext_cases A.n A.m hnm.1 hnm.2.1 hnm.2.2 with ⟨hnm', hf⟩ | ⟨n', m', hbn, hn1, hn2, hn3⟩
    · have e : ticketR A u = (nameL 4, A) := by
        have : (blkNext A.n A.m).2.1 = 4 := by unfold blkNext; rw [if_pos hnm', if_pos (by omega)]
        unfold ticketR; rw [if_neg (by simp [hu]), this, if_pos (by decide)]
      rw [e]
      refine ⟨hI', 0, 0, 0, 0, 4, rfl, by decide, z4, goD_below ?_, ?_⟩
      · rintro W G ⟨v, vn, vk, h1, _⟩
        have h2 := h1.q.1
        rw [← hnm'] at h2
        exact rsTicket_full hu (by omega) (by omega) W h2
      · rintro W F ⟨q, bi, bb, bv, v, va, vb, h1, rfl⟩ _
        refine (svTicket_full hr hu hnm.1 (by omega) hf hnm' W h1).mono ?_
        rintro x w' ⟨rfl, hs, hst⟩
        exact ⟨rfl, _, ⟨q, bi, bb, bv, v, va, vb, hs, rfl⟩, hst⟩
    · obtain ⟨he, hk, _⟩ := ringE_ok hr
      have hub := tmB_true.1 hu
      have e : ticketR A u = (rowL [A.e, A.n, u, tagOf A.k [2, A.n, u]], { A with n := n', m := m', many := A.many + 1 }) := by
        unfold ticketR; rw [if_neg (by simp [hu]), hbn, if_neg (by simp)]
      rw [e]
      refine ⟨⟨⟨hr, hli, h8, hlt, ⟨hcn.1, by show A.cn ≤ ((t + 1 : Nat) : Int); omega⟩, ⟨by show (0 : Int) ≤ n'; omega, hn2, hn3⟩, ⟨by show (0 : Int) ≤ A.many + 1; omega, by show A.many + 1 ≤ ((t + 1 : Nat) : Int); omega⟩, hz1, hz2⟩, h00⟩,
        A.e, A.n, u, tagOf A.k [2, A.n, u], 0, rfl, by decide, ⟨⟨by omega, by omega⟩, ⟨by omega, by omega⟩, ⟨by omega, by omega⟩, tag_ok _ _⟩, ?_, ?_⟩
      · rintro W G ⟨v, vn, vk, h1, rfl⟩
        refine (rsTicket_ok hu hk hnm.1 hnm.2.1 hnm.2.2 hbn W h1).mono ?_
        rintro x w' ⟨rfl, hs, hst⟩
        exact ⟨rfl, _, ⟨v, vn, vk, hs, rfl⟩, hst⟩
      · rintro W F ⟨q, bi, bb, bv, v, va, vb, h1, rfl⟩ _
        refine (svTicket_ok hr hu hnm.1 hnm.2.1 hnm.2.2 hbn ⟨hmy.1, by omega⟩ W h1).mono ?_
        rintro x w' ⟨rfl, hs, hst⟩
        exact ⟨rfl, _, ⟨q, bi, bb, bv, v, va, vb, hs, rfl⟩, hst⟩
/-- a crash -/
theorem rt_crash {B b r : Nat} {A : Vals} {t : Nat} (hI : RI A t) : RI (crashV A) (t + 1) ∧
    GoD 26 #[.pointer (some ⟨r, 0, none⟩)] r A (crashV A) (.tuple #[]) ∧ GoS 67 #[.pointer (some ⟨b, 0, none⟩)] B b A (crashV A) (.tuple #[]) := by
  obtain ⟨⟨hr, hli, h8, hlt, hcn, hnm, hmy, hz1, hz2⟩, h00⟩ := hI
  refine ⟨⟨⟨hr, hli, by simp [crashV], by simp [crashV], ⟨hcn.1, by show A.cn ≤ ((t + 1 : Nat) : Int); omega⟩, ⟨by show (0 : Int) ≤ A.m; omega, Int.le_refl _, hnm.2.2⟩, ⟨hmy.1, by show A.many ≤ ((t + 1 : Nat) : Int); omega⟩, hz2, hz2⟩, by simp [crashV]⟩, ?_, ?_⟩
  · rintro W G ⟨v, vn, vk, h1, rfl⟩
    refine (rsCrash W h1).mono ?_
    rintro x w' ⟨rfl, hs, hst⟩
    exact ⟨rfl, _, ⟨_, _, _, hs, rfl⟩, hst⟩
  · rintro W F ⟨q, bi, bb, bv, v, va, vb, h1, rfl⟩ hB
    refine (svCrash W hB h1).mono ?_
    rintro x w' ⟨rfl, q', va', hs, hst⟩
    exact ⟨rfl, _, ⟨q', bi, bb, bv, _, va', vb, hs, rfl⟩, hst⟩
/-- keys turn -/
theorem rt_turn {B b : Nat} {A : Vals} {t : Nat} (hI : RI A t) : RI (turnR A).2 (t + 1) ∧ ∃ t1 t2 t3 f, (turnR A).1 = (if f = 0 then okW else nameL f) ∧ (0 ≤ f ∧ f < 10) ∧
    (turnR A).2 = (if f = 0 then { A with e := t1, k := t2, o := t3 } else A) ∧
    (∀ W, Calls Tryz.prog 25 #[.agg #[.int .i64 A.e, .int .i64 A.k, .int .i64 A.o]] W fun x w' => x = .returned (.tuple #[.agg #[.int .i64 t1, .int .i64 t2, .int .i64 t3], .int .i64 f]) ∧ Below W.heap.size W w') ∧
    GoS 66 #[.pointer (some ⟨b, 0, none⟩)] B b A (turnR A).2 (errV f) := by
  have hI' := hI.more
  obtain ⟨⟨hr, hli, h8, hlt, hcn, hnm, hmy, hz1, hz2⟩, h00⟩ := hI
  obtain ⟨h1, _, _, _⟩ := ringE_ok hr
  by_cases he : A.e < 100
  · have e : turnR A = (okW, { A with e := A.e + 1, k := tagOf A.k [A.e + 1], o := A.k }) := by unfold turnR; rw [if_pos he]
    rw [e]
    refine ⟨⟨⟨ringTurn_right hr he, hI'.1.2.1, hI'.1.2.2.1, hI'.1.2.2.2.1, hI'.1.2.2.2.2.1, hI'.1.2.2.2.2.2.1, hI'.1.2.2.2.2.2.2.1, hI'.1.2.2.2.2.2.2.2.1, hI'.1.2.2.2.2.2.2.2.2⟩, h00⟩, A.e + 1, tagOf A.k [A.e + 1], A.k, 0, rfl, by decide, rfl, fun W => rTurn_ok hr he W, ?_⟩
    rintro W F ⟨q, bi, bb, bv, v, va, vb, h1, rfl⟩ hB
    refine (svTurn_ok hr he W hB h1).mono ?_
    rintro x w' ⟨rfl, hs, hst⟩
    exact ⟨rfl, _, ⟨q, bi, bb, bv, v, va, vb, hs, rfl⟩, hst⟩
  · have he' : A.e = 100 := by omega
    have e : turnR A = (nameL 4, A) := by unfold turnR; rw [if_neg he]
    rw [e]
    refine ⟨hI', 0, 0, 0, 4, rfl, by decide, rfl, fun W => ?_, goS_below ?_⟩
    · rw [he']; exact rTurn_full W
    · rintro W F ⟨q, bi, bb, bv, v, va, vb, h1, _⟩
      rw [he'] at h1 hr
      exact svTurn_full hr W h1
/-- the first is pulled -/
theorem rt_pull {B b : Nat} {A : Vals} {t : Nat} (hI : RI A t) (ht : t < 4000) : RI (pullR A).2 (t + 1) ∧ ∃ x0 x1 f, (pullR A).1 = (if f = 0 then digL (connN x0 x1) else nameL f) ∧ (0 ≤ f ∧ f < 10) ∧ (f = 0 → connB x0 x1 = true) ∧
    GoS 90 #[.pointer (some ⟨b, 0, none⟩)] B b A (pullR A).2 (.tuple #[.agg #[.int .i64 x0, .int .i64 x1], errV f]) := by
  have hI' := hI.more
  obtain ⟨⟨hr, hli, h8, hlt, hcn, hnm, hmy, hz1, hz2⟩, h00⟩ := hI
  cases hz : A.zs with
  | nil =>
    have e : pullR A = (nameL 5, A) := by unfold pullR; rw [hz]
    rw [e]
    refine ⟨hI', 0, 0, 5, rfl, by decide, by decide, goS_below ?_⟩
    rintro W F ⟨q, bi, bb, bv, v, va, vb, h1, _⟩
    rw [hz] at h1
    exact sPull_none W h1.sq
  | cons x l =>
    have e : pullR A = (digL (connN x.1 x.2), { A with zs := l }) := by unfold pullR; rw [hz]
    rw [e]
    rw [hz] at h8 hlt h00
    obtain ⟨g0, g1⟩ := h00 x (by simp)
    have g2 := hlt x (by simp)
    refine ⟨⟨⟨hr, hli, by simp at h8; show l.length ≤ 8; omega, fun y hy => hlt y (List.mem_cons_of_mem _ hy), hI'.1.2.2.2.2.1, hnm, hI'.1.2.2.2.2.2.2.1, hz1, hz2⟩, fun y hy => h00 y (List.mem_cons_of_mem _ hy)⟩, x.1, x.2, 0, rfl, by decide, fun _ => decide_eq_true (by omega), ?_⟩
    rintro W F ⟨q, bi, bb, bv, v, va, vb, h1, rfl⟩ hB
    rw [hz] at h1
    refine (sPull_one W h1.sq).mono ?_
    rintro y w' ⟨rfl, v', hs, hr', hk⟩
    obtain ⟨a1, a2⟩ := h1.steps hB hs hr' (hk.mono (fun x hx => List.mem_cons_of_mem _ hx))
    exact ⟨rfl, _, ⟨q, bi, bb, bv, v', va, vb, a1, rfl⟩, a2⟩
theorem rt_wait {B b : Nat} {A : Vals} : GoS 69 #[.pointer (some ⟨b, 0, none⟩)] B b A A (.int .i64 (A.zs.length : Int)) := by
  refine goS_below ?_
  rintro W F ⟨q, bi, bb, bv, v, va, vb, h1, _⟩
  exact sWaiting W h1.sq
theorem old_none (e k o now : Int) : oldB e k o 0 0 0 0 now = false := by unfold oldB; simp
/-- a hello -/
theorem rt_hello {B b r : Nat} {A : Vals} {t : Nat} (hI : RI A t) (ht : t < 4000) (a t0 t1 t2 t3 now : Int) : RI (helloR A a t0 t1 t2 t3 now).2 (t + 1) ∧ ∃ k0 k1 k2 k3 k4 k5 k6 f,
    (helloR A a t0 t1 t2 t3 now).1 = (if f ≠ 0 then nameL f else if k0 = 0 then retW ++ rowL [k1, k2, k3, k4] else if k0 = 2 then busyW else welW ++ digL (connN k5 k6)) ∧ (0 ≤ f ∧ f < 10) ∧ rowOk k1 k2 k3 k4 ∧ (0 ≤ k0 ∧ k0 ≤ 2) ∧ connB k5 k6 = true ∧
    GoD 39 #[.pointer (some ⟨r, 0, none⟩), plH a t0 t1 t2 t3 0 0 0 0 ⟨#[]⟩, .int .i64 now] r A (helloR A a t0 t1 t2 t3 now).2 (.tuple #[plA k0 k1 k2 k3 k4 k5 k6 false, .int .i64 f]) ∧
    GoS 87 #[.pointer (some ⟨b, 0, none⟩), plH a t0 t1 t2 t3 0 0 0 0 ⟨#[]⟩, .int .i64 now] B b A (helloR A a t0 t1 t2 t3 now).2 (.tuple #[plA k0 k1 k2 k3 k4 k5 k6 false, errV f]) := by
  have hI' := hI.more
  have hsz : (⟨#[]⟩ : ByteArray).size ≤ 9223372036854775807 := by decide
  obtain ⟨⟨hr, hli, h8, hlt, hcn, hnm, hmy, hz1, hz2⟩, h00⟩ := hI
  have z4 : rowOk 0 0 0 0 := ⟨ok0, ok0, ok0, ok0⟩
  have z2 : connB 0 0 = true := by decide
  obtain ⟨n', eb, c0, hA⟩ : ∃ n' eb c0, kindR A a t0 t1 t2 t3 now = (n', eb, c0) := ⟨_, _, _, rfl⟩
  have hA2 : ansN A.e A.k A.o a t0 t1 t2 t3 0 0 0 0 ⟨#[]⟩ (A.zs.length : Int) now 50 = (n', eb, c0) := hA
  by_cases hc0 : c0 = 0
  · subst hc0
    obtain ⟨_, ha, hn, hl, hneed, heb⟩ := ans_ok hA2
    have heb0 : eb = false := by rw [heb, old_none]; unfold earlyB; simp
    subst heb0
    have hkd : n' = 2 ∨ (n' = 1 ∧ A.zs.length < 8) ∨ n' = 0 := by
      rcases needs_cases hneed with ⟨_, hn1⟩ | ⟨_, hx, hn1⟩ | ⟨_, hx, _, hn1⟩ | ⟨_, hx, _, _, hn1⟩ | ⟨_, hx, _, _, hn1⟩
      · exact .inl hn1
      · exact .inr (.inl ⟨hn1, by omega⟩)
      · exact .inr (.inl ⟨hn1, by omega⟩)
      · exact .inr (.inl ⟨hn1, by omega⟩)
      · exact .inr (.inr hn1)
    rcases hkd with rfl | ⟨rfl, hz⟩ | rfl
    · have e : helloR A a t0 t1 t2 t3 now = (busyW, A) := by unfold helloR; rw [hA]; rfl
      rw [e]
      refine ⟨hI', 2, 0, 0, 0, 0, 0, 0, 0, rfl, by decide, z4, by decide, z2, goD_below ?_, goS_below ?_⟩
      · rintro W G ⟨v, vn, vk, h1, _⟩
        exact rsHello_busy hsz hA2 W h1
      · rintro W F ⟨q, bi, bb, bv, v, va, vb, h1, _⟩
        exact sHello_busy hsz hA2 W h1.sq
    · have hoff := pl_off hlt hcn.1 hz (by omega)
      have hcn2 : 0 ≤ A.cn ∧ A.cn < 4096 := ⟨by omega, by omega⟩
      have hl8 : (A.zs ++ [(0, A.cn)]).length ≤ 8 := by simp; omega
      have hc1 : (0 : Int) ≤ A.cn + 1 ∧ A.cn + 1 ≤ ((t + 1 : Nat) : Int) := ⟨by omega, by omega⟩
      have hm1 : 0 ≤ A.many ∧ A.many ≤ ((t + 1 : Nat) : Int) := ⟨by omega, by omega⟩
      have e : helloR A a t0 t1 t2 t3 now = (welW ++ digL (connN 0 A.cn), { A with cn := A.cn + 1, zs := A.zs ++ [(0, A.cn)] }) := by unfold helloR; rw [hA]; rfl
      rw [e]
      refine ⟨⟨⟨hr, hli, hl8, pl_snoc hlt, hc1, hnm, hm1, hz1, hz2⟩, fun x hx => ?_⟩, 1, 0, 0, 0, 0, 0, A.cn, 0, rfl, by decide, z4, by decide, decide_eq_true (by omega), ?_, ?_⟩
      · rcases List.mem_append.1 hx with hx | hx
        · exact h00 x hx
        · simp at hx; subst hx; exact ⟨rfl, hcn.1⟩
      · rintro W G ⟨v, vn, vk, h1, rfl⟩
        refine (rsHello_wok hsz hA2 rfl hoff hcn2 W h1).mono ?_
        rintro x w' ⟨rfl, v', hs, hst⟩
        exact ⟨rfl, _, ⟨v', vn, vk, hs, rfl⟩, hst⟩
      · rintro W F ⟨q, bi, bb, bv, v, va, vb, h1, rfl⟩ hB
        refine (sHello_wok hsz hA2 rfl hoff hcn2 W h1.sq).mono ?_
        rintro x w' ⟨rfl, v', hs, hr', hk⟩
        obtain ⟨a1, a2⟩ := h1.steps hB hs hr' hk
        exact ⟨rfl, _, ⟨q, bi, bb, bv, v', va, vb, a1, rfl⟩, a2⟩
    · obtain ⟨he, hk, _⟩ := ringE_ok hr
      have hab := inB_true.1 ha
      have hnb := tmB_true.1 hn
      have e : helloR A a t0 t1 t2 t3 now = (retW ++ rowL [A.e, a, now, tagOf A.k [1, a, now]], A) := by unfold helloR; rw [hA]; rfl
      rw [e]
      refine ⟨hI', 0, A.e, a, now, tagOf A.k [1, a, now], 0, 0, 0, rfl, by decide, ⟨⟨by omega, by omega⟩, ⟨by omega, by omega⟩, ⟨by omega, by omega⟩, tag_ok _ _⟩, by decide, z2, goD_below ?_, goS_below ?_⟩
      · rintro W G ⟨v, vn, vk, h1, _⟩
        exact rsHello_retry hsz hA2 hk ha hn W h1
      · rintro W F ⟨q, bi, bb, bv, v, va, vb, h1, _⟩
        exact sHello_retry hsz hA2 hr ha hn W h1.sq
  · have e : helloR A a t0 t1 t2 t3 now = (nameL c0, A) := by unfold helloR; rw [hA, if_pos hc0]
    rw [e]
    refine ⟨hI', 0, 0, 0, 0, 0, 0, 0, c0, by rw [if_pos hc0], ?_, z4, by decide, z2, goD_below ?_, goS_below ?_⟩
    · exact ansN_code hA2
    · rintro W G ⟨v, vn, vk, h1, _⟩
      exact rsHello_err hsz hA2 hc0 W h1
    · rintro W F ⟨q, bi, bb, bv, v, va, vb, h1, _⟩
      exact sHello_err hsz hA2 hc0 W h1.sq
end Go.Proofs.YtlnghfmcofmkjaaGreatDoor
