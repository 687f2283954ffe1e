/- strings.Lines: its iterator by contract, for whatever rounds. -/
import Derived.RangeFuncNested
import Derived.RangeFuncBound
import Derived.RangeFuncCalls
import Derived.RangeFuncLeaves
import Derived.Shelf.Abstract
import Derived.Shelf.RegionOpen
import Derived.WalkKit
import Derived.OwnWalkIn
import Derived.TacticsInMore
import Derived.LoopNIn
import Derived.LoopIn
import Derived.RegionIn
import Derived.Test.YtjbpkmmpbhngbaaGreatDoorShIdx
import Derived.Test.YtjbpkmmpbhngbaaGreatDoorLineL
import Derived.Test.YtjbpkmmpbhngbaaGreatDoorObj
namespace Go.Proofs.YtjbpkmmpbhngbaaGreatDoor
open Go.RowKit Go.Shelf
attribute [local go_sem] Oper.semAt_some

/-- how many bytes block b holds -/
def lenAt (b : Nat) (w : World) : Nat := match w.cell? ⟨b, 0, none⟩ with | some (.string t) => t.size | _ => 0
theorem lenAt_obj {w : World} {b : Nat} {t : ByteArray} (h : ObjAt w b 9 [.string t]) : lenAt b w = t.size := by
  unfold lenAt; rw [h.cell (i := 0) rfl]
theorem drop_head {α : Type} {l r : List α} {x : α} {k : Nat} (h : l.drop k = x :: r) : l[k]? = some x ∧ l.drop (k + 1) = r ∧ k < l.length := by
  have hk : k < l.length := by
    rcases Nat.lt_or_ge k l.length with h1 | h1
    · exact h1
    · rw [List.drop_of_length_le h1] at h; cases h
  rw [List.drop_eq_getElem_cons hk] at h
  obtain ⟨h1, h2⟩ := List.cons.inj h
  exact ⟨by rw [List.getElem?_eq_getElem hk, h1], h2, hk⟩
theorem grownBy_set (w : World) (b i : Nat) (v : Value) : w.grownBy (w.setCell ⟨b, i, none⟩ v) (some b) :=
  ⟨rfl, rfl, rfl, by simp [World.setCell], fun k _ hk => Below.heap_setCell w _ v k (fun e => hk (by rw [e]))⟩
theorem grownBy_drew (w : World) : w.grownBy w.drew none := ⟨rfl, rfl, rfl, Nat.le_refl _, fun _ _ _ => rfl⟩
set_option maxRecDepth 100000 in
set_option maxHeartbeats 2000000 in
theorem linesIter (n l bs : Nat) (hn1 : 1 ≤ n) (s : ByteArray) (hsz : s.size ≤ maxLen) (J : Nat → World → Prop)
    (hJ : ∀ k W W' row, J k W → W.grownBy W' row → (∀ r, row = some r → r = bs) → J k W')
    (hY : ∀ k W (x : ByteArray), (linesL s.data.toList)[k]? = some x.data.toList → J k W → YieldAt Fence.wide (n - 1) Tryz.prog l #[.string x] W fun e W' => e = .returned (.bool true) ∧ J (k + 1) W' ∧ W'.heap[bs]? = W.heap[bs]?)
    (W : World) (hc : ObjAt W bs 9 [.string s]) (h0 : J 0 W) :
    CallsIn Fence.wide n Tryz.prog 63 #[.func (.yield l) #[] #[], .pointer (some ⟨bs, 0, none⟩)] W fun e W' => (∃ v, e = .returned v) ∧ J (linesL s.data.toList).length W' := by
  unfold maxLen at hsz
  refine callsIn_of_wp Tryz.func63 rfl trivial ?_ rfl
  simp only [Tryz.ntmps63, List.size_toArray, List.length_cons, List.length_nil, Nat.reduceAdd, Nat.reduceSub, Array.replicate_succ, Array.replicate_zero, List.push_toArray, List.append_toArray, List.nil_append, List.cons_append]
  gi_wp2
  gi_loopw [3, 4] (fun _ _ wr => ∃ (k : Nat) (t : ByteArray), k ≤ (linesL s.data.toList).length ∧ t.size ≤ 9223372036854775807 ∧ (linesL s.data.toList).drop k = linesL t.data.toList ∧ ObjAt wr bs 9 [.string t] ∧ J k wr)
    (fun _ _ wr => lenAt bs wr)
  case atStart => exact ⟨0, s, Nat.zero_le _, by omega, rfl, hc, h0⟩
  case round =>
    obtain ⟨k, t, hkn, ht, hd, ho, hj⟩ := hrel
    obtain ⟨w9, rfl⟩ : ∃ x, x = wr := ⟨wr, rfl⟩
    have q := ho.cell (i := 0) rfl
    have f := ho.free 0
    by_cases hn : 0 < t.size
    · rcases line_first t hn with ⟨e1, e2⟩ | ⟨i, hi, e1, e2⟩
      · have hIX : ∀ W : World, Calls Tryz.prog 64 #[.string t, .int .u8 10] W fun e w' => e = .returned (.int .i64 (-1)) ∧ W = w' := fun W => by
          have := Tryz.strings_IndexByte t 10 W
          have e3 : Lib.indexByte t.data.toList (Int.toNat 10).toUInt8 = -1 := e1
          rw [e3] at this
          exact this.mono fun _ _ ⟨h1, h2⟩ => ⟨h1, h2.symm⟩
        have IX := hide hIX
        rw [e2] at hd
        obtain ⟨hx, hd2, hkl⟩ := drop_head hd
        have hl := lenAt_obj ho
        obtain ⟨W5, hW5⟩ : ∃ W5, W5 = w9.setCell ⟨bs, 0, none⟩ (.string ⟨#[]⟩) := ⟨_, rfl⟩
        have ho5 : ObjAt W5 bs 9 [.string ⟨#[]⟩] := by rw [hW5]; exact ho.set 0 _
        have hj5 : J k W5 := by rw [hW5]; exact hJ k _ _ _ hj (grownBy_set _ _ _ _) (fun r e => (Option.some.inj e).symm)
        obtain ⟨fn, tmps, assign, body, hy, hR⟩ := hY k W5 t hx hj5
        have HR := hide hR
        have HO5 := hide ho5
        have HD := hide hd2
        have HL := hide hl
        rw [hW5] at hy
        clear hIX e1 e2 hd hx hR ho5 hj5 hd2 ho hj hl
        gi_wp2_with (refine ⟨trivial, ?_⟩; gi_at_call 64; refine (callsIn_wide.2 (IX.out _)).mono ?_; rintro e w' ⟨rfl, rfl⟩)
        rw [← hW5]
        refine HR.out.mono ?_
        rintro e W3 ⟨rfl, hJ3, hk3⟩
        have ho3 : ObjAt W3 bs 9 [.string ⟨#[]⟩] := hk3.trans HO5.out
        gi_wp2
        go_roundw
        case rel => exact ⟨k + 1, ⟨#[]⟩, hkl, by decide, by rw [HD.out]; rfl, ho3, hJ3⟩
        case measure => rw [lenAt_obj ho3, HL.out]; exact hn
      · have hIX : ∀ W : World, Calls Tryz.prog 64 #[.string t, .int .u8 10] W fun e w' => e = .returned (.int .i64 (i : Int)) ∧ W = w' := fun W => by
          have := Tryz.strings_IndexByte t 10 W
          have e3 : Lib.indexByte t.data.toList (Int.toNat 10).toUInt8 = i := e1
          rw [e3] at this
          exact this.mono fun _ _ ⟨h1, h2⟩ => ⟨h1, h2.symm⟩
        have IX := hide hIX
        rw [e2] at hd
        obtain ⟨hx, hd2, hkl⟩ := drop_head hd
        have hl := lenAt_obj ho
        obtain ⟨W5, hW5⟩ : ∃ W5, W5 = (w9.setCell ⟨bs, 0, none⟩ (.string (t.extract (i + 1) t.size))).drew := ⟨_, rfl⟩
        have ho5 : ObjAt W5 bs 9 [.string (t.extract (i + 1) t.size)] := by rw [hW5]; exact (ho.set 0 _).drew
        have hj5 : J k W5 := by rw [hW5]; exact hJ k _ _ _ (hJ k _ _ _ hj (grownBy_set _ _ _ _) (fun r e => (Option.some.inj e).symm)) (grownBy_drew _) (fun r e => by cases e)
        obtain ⟨fn, tmps, assign, body, hy, hR⟩ := hY k W5 (t.extract 0 (i + 1)) hx hj5
        have HR := hide hR
        have HO5 := hide ho5
        have HD := hide hd2
        have HL := hide hl
        have hsz2 : (t.extract (i + 1) t.size).size = t.size - (i + 1) := by simp
        have HSZ := hide hsz2
        rw [hW5] at hy
        clear hIX e1 e2 hd hx hd2 ho hj hl hR ho5 hj5 hsz2
        gi_wp2_with (refine ⟨trivial, ?_⟩; gi_at_call 64; refine (callsIn_wide.2 (IX.out _)).mono ?_; rintro e w' ⟨rfl, rfl⟩)
        gi_region
        rw [hW5] at HR
        gi_wp2
        refine HR.out.mono ?_
        rw [← hW5]
        rintro e W3 ⟨rfl, hJ3, hk3⟩
        have ho3 : ObjAt W3 bs 9 [.string (t.extract (i + 1) t.size)] := hk3.trans HO5.out
        gi_wp2
        go_roundw
        case rel => exact ⟨k + 1, _, hkl, by rw [HSZ.out]; omega, HD.out, ho3, hJ3⟩
        case measure => rw [lenAt_obj ho3, HL.out, HSZ.out]; omega
    · have ht0 : t.size = 0 := by omega
      have hl0 : t.data.toList = [] := by
        have : t.data.toList.length = 0 := by simpa using ht0
        exact List.length_eq_zero_iff.1 this
      have hd2 : (linesL s.data.toList).drop k = [] := by rw [hd, hl0]; rfl
      have hk2 : k = (linesL s.data.toList).length := by have := List.drop_eq_nil_iff.1 hd2; omega
      have HK := hide hk2
      have HJ := hide hj
      clear hd2 hl0 hk2 hd hj
      gi_wp2
      go_end0
      exact ⟨⟨_, rfl⟩, by rw [← HK.out]; exact HJ.out⟩
end Go.Proofs.YtjbpkmmpbhngbaaGreatDoor
