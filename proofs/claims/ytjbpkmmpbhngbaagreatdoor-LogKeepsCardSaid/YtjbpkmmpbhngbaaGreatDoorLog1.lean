/- log: New, step, Sync, Fail, Bytes, Safe, All by contracts. -/
import Derived.Test.YtjbpkmmpbhngbaaGreatDoorVaultV
namespace Go.Proofs.YtjbpkmmpbhngbaaGreatDoor
open Go.RowKit

/-- Block b is a Log: the row of what was spent, the bytes, how many records, how many bytes are safe, the steps left, stopped. -/
def LgO (w : World) (b : Nat) (v : Value) (s : ByteArray) (many safe left : Int) (st : Bool) : Prop := ObjAt w b 53 [v, .string s, .int .i64 many, .int .i64 safe, .int .i64 left, .bool st]
/-- A Log and its row. -/
def LG (w : World) (b : Nat) (v : Value) (zs : List (Int × Int)) (s : ByteArray) (many safe left : Int) (st : Bool) : Prop := LgO w b v s many safe left st ∧ VR w b v zs
theorem LG.below {w w' : World} {b : Nat} {v : Value} {zs : List (Int × Int)} {s : ByteArray} {many safe left : Int} {st : Bool} (h : LG w b v zs s many safe left st) (hb : Below w.heap.size w w') : LG w' b v zs s many safe left st := ⟨ObjAt.below h.1 hb, h.2.below hb⟩
theorem LG.lt {w : World} {b : Nat} {v : Value} {zs : List (Int × Int)} {s : ByteArray} {many safe left : Int} {st : Bool} (h : LG w b v zs s many safe left st) : b < w.heap.size := ObjAt.lt h.1
/-- the steps that are left behind a step -/
def stepL (left : Int) : Int := max (-1) (left - 1)
theorem stepL_neg : stepL (-1) = -1 := by decide
theorem stepL_pos {l : Int} (h : 0 ≤ l) : stepL l = l - 1 := by unfold stepL; omega
theorem stepL_ge (l : Int) : -1 ≤ stepL l := by unfold stepL; omega
theorem lgNew (w : World) : Calls Tryz.prog 7 #[] w fun e w' => ∃ b, e = .returned (.pointer (some ⟨b, 0, none⟩)) ∧ w.heap.size ≤ b ∧ LG w' b (.slice none 0 0) [] ByteArray.empty 0 0 (-1) false ∧ Below w.heap.size w w' := by
  go_enter Tryz.func7, Tryz.ntmps7
  go_wp2
  go_ret
  exact ⟨_, rfl, Nat.le_refl _, ⟨ObjAt.new _ _ _, VR.nil _ _⟩, by go_grown⟩
theorem lgBytes {b : Nat} {v : Value} {s : ByteArray} {many safe left : Int} {st : Bool} (w : World) (h : LgO w b v s many safe left st) :
    Calls Tryz.prog 12 #[.pointer (some ⟨b, 0, none⟩)] w fun e w' => e = .returned (.int .i64 (s.size : Int)) ∧ w = w' := by
  have q1 := ObjAt.cell h (i := 1) rfl
  go_enter Tryz.func12, Tryz.ntmps12
  go_wp2
  go_ret
  exact ⟨rfl, rfl⟩
theorem lgSafe {b : Nat} {v : Value} {s : ByteArray} {many safe left : Int} {st : Bool} (w : World) (h : LgO w b v s many safe left st) :
    Calls Tryz.prog 13 #[.pointer (some ⟨b, 0, none⟩)] w fun e w' => e = .returned (.int .i64 safe) ∧ w = w' := by
  have q1 := ObjAt.cell h (i := 3) rfl
  go_enter Tryz.func13, Tryz.ntmps13
  go_wp2
  go_ret
  exact ⟨rfl, rfl⟩
theorem lgStep {b : Nat} {v : Value} {s : ByteArray} {many safe left : Int} {st : Bool} (h0 : -1 ≤ left) (h1 : left ≤ 9223372036854775807) (w : World) (h : LgO w b v s many safe left st) :
    Calls Tryz.prog 25 #[.pointer (some ⟨b, 0, none⟩)] w fun e w' => e = .returned (.bool (left == 0)) ∧ LgO w' b v s many safe (stepL left) (left == 0) ∧ Kept [b] w w' := by
  have q4 := ObjAt.cell h (i := 4) rfl
  have q5 := ObjAt.cell h (i := 5) rfl
  have f4 := ObjAt.free h 4
  have f5 := ObjAt.free h 5
  have hl := ObjAt.lt h
  have HO := hide h
  clear h
  go_enter Tryz.func25, Tryz.ntmps25
  go_wp2
  go_ret
  exact ⟨rfl, (HO.out.set 5 _).set 4 _, ((Kept.refl _ _).setCell (.inl (by simp)) _).setCell (.inl (by simp)) _⟩
end Go.Proofs.YtjbpkmmpbhngbaaGreatDoor
