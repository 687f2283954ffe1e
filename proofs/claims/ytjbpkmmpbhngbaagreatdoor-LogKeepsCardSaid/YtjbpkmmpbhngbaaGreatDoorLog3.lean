/- log: the whole of it over a plain state: what each of its functions answers, and what it then is. -/
import Derived.Test.YtjbpkmmpbhngbaaGreatDoorRedo
import Derived.Test.YtjbpkmmpbhngbaaGreatDoorErrV
namespace Go.Proofs.YtjbpkmmpbhngbaaGreatDoor
open Go.RowKit Go.Shelf

/-- a log, plainly: its records; bytes behind them of a record that was cut; how many bytes are safe; the steps left; stopped -/
structure LS where
  rs : List Rec
  tl : List UInt8
  safe : Int
  left : Int
  st : Bool
def LS.bytes (s : LS) : List UInt8 := catR s.rs ++ s.tl
def LS.zs (s : LS) : List (Int × Int) := moreR [] s.rs
/-- what holds of it -/
structure LS.ok (s : LS) : Prop where
  recs : okR [] s.rs
  len : s.rs.length ≤ 30
  tail : ∀ c ∈ s.tl, c ≠ 10
  cut : s.st = false → s.tl = []
  short : s.tl.length ≤ 21
  saf : 0 ≤ s.safe ∧ s.safe ≤ s.bytes.length
  lef : -1 ≤ s.left ∧ s.left ≤ 9223372036854775807
theorem row_len {r : Rec} (h : r.ok) : 6 ≤ r.row.length ∧ r.row.length ≤ 21 := by
  have h1 := recB_size h.1 h.2.1 h.2.2
  have h2 := congrArg List.length (recB_list r.n r.u r.now)
  have h3 : (recB r.n r.u r.now).data.toList.length = (recB r.n r.u r.now).size := by simp
  have h4 : (Rec.mk r.n r.u r.now).row.length = r.row.length := rfl
  omega
theorem cat_len (rs : List Rec) (h : ∀ r ∈ rs, r.ok) : (catR rs).length ≤ 21 * rs.length := by
  induction rs with
  | nil => simp [catR]
  | cons r rs ih =>
    have h1 := row_len (h r (by simp))
    have h2 := ih (fun x hx => h x (by simp [hx]))
    simp only [catR, List.length_append, List.length_cons]
    omega
theorem LS.ok.bytes_len {s : LS} (h : s.ok) : s.bytes.length ≤ 651 := by
  have h1 := cat_len s.rs (okR_rec _ _ h.recs)
  have h2 := h.len
  have h3 := h.short
  unfold LS.bytes
  simp only [List.length_append]
  omega
/-- Block b is a Log of it, v the row of what was spent -/
def LgS (w : World) (b : Nat) (v : Value) (s : LS) : Prop := ∃ x : ByteArray, LG w b v s.zs x (s.rs.length : Int) s.safe s.left s.st ∧ x.data.toList = s.bytes
theorem LgS.below {w w' : World} {b : Nat} {v : Value} {s : LS} (h : LgS w b v s) (hb : Below w.heap.size w w') : LgS w' b v s := by
  obtain ⟨x, h1, h2⟩ := h
  exact ⟨x, h1.below hb, h2⟩
theorem LgS.lt {w : World} {b : Nat} {v : Value} {s : LS} (h : LgS w b v s) : b < w.heap.size := by obtain ⟨x, h1, _⟩ := h; exact h1.lt
theorem bytes_size {x : ByteArray} {l : List UInt8} (h : x.data.toList = l) : x.size = l.length := by rw [← h]; simp
/-- the row is the old one, or is new -/
def rowNew (w w' : World) (v v' : Value) : Prop := v' = v ∨ vNew w w' v'

/-- a new one -/
def lsNew : LS := ⟨[], [], 0, -1, false⟩
theorem lsNew_ok : lsNew.ok := ⟨trivial, by simp [lsNew], by simp [lsNew], fun _ => rfl, by simp [lsNew], by simp [lsNew, LS.bytes, catR], by simp [lsNew]⟩
theorem lgsNew (w : World) : Calls Tryz.prog 7 #[] w fun e w' => ∃ b, e = .returned (.pointer (some ⟨b, 0, none⟩)) ∧ w.heap.size ≤ b ∧ LgS w' b (.slice none 0 0) lsNew ∧ Below w.heap.size w w' :=
  (lgNew w).mono fun _ _ ⟨b, h1, h2, h3, h4⟩ => ⟨b, h1, h2, ⟨_, h3, rfl⟩, h4⟩
/-- fail in so many steps -/
def LS.fail (s : LS) (n : Int) : LS := { s with left := max (-1) n }
theorem LS.ok.fail {s : LS} (h : s.ok) {n : Int} (hn : n ≤ 9223372036854775807) : (s.fail n).ok := ⟨h.recs, h.len, h.tail, h.cut, h.short, h.saf, by unfold LS.fail; simp; omega⟩
theorem lgsFail {s : LS} {b : Nat} {v : Value} {n : Int} (_ : (Lit.int .i64 n).wf = true) (w : World) (h : LgS w b v s) :
    Calls Tryz.prog 14 #[.pointer (some ⟨b, 0, none⟩), .int .i64 n] w fun e w' => (∃ r, e = .returned r) ∧ LgS w' b v (s.fail n) ∧ Kept [b] w w' := by
  obtain ⟨x, ⟨h1, h2⟩, h3⟩ := h
  have q4 := ObjAt.cell h1 (i := 4) rfl
  have f4 := ObjAt.free h1 4
  have HO := hide h1
  have HV := hide h2
  have H3 := hide h3
  clear h1 h2 h3
  go_enter Tryz.func14, Tryz.ntmps14
  go_wp2
  go_end0
  have hk : Kept [b] w (w.setCell ⟨b, 4, none⟩ (.int .i64 (max (-1) n))) := (Kept.refl _ _).setCell (.inl (by simp)) _
  exact ⟨⟨_, rfl⟩, ⟨x, ⟨HO.out.set 4 _, HV.out.kept hk⟩, H3.out⟩, hk⟩
/-- sync: and its fault -/
def LS.sync (s : LS) : LS × Int :=
  if s.st = true then (s, 6) else if s.left = 0 then ({ s with left := -1, st := true }, 6) else ({ s with safe := s.bytes.length, left := stepL s.left, st := false }, 0)
theorem LS.ok.sync {s : LS} (h : s.ok) : s.sync.1.ok := by
  unfold LS.sync
  split
  · exact h
  · split
    · exact ⟨h.recs, h.len, h.tail, (fun e => by cases e), h.short, h.saf, by simp⟩
    · rename_i h1 h2
      have hst : s.st = false := by cases hs : s.st; rfl; exact absurd hs h1
      have := h.lef
      exact ⟨h.recs, h.len, h.tail, fun _ => h.cut hst, h.short, ⟨by simp, by simp [LS.bytes]⟩, by simp; unfold stepL; omega⟩
theorem lgsSync {s : LS} (hs : s.ok) {b : Nat} {v : Value} (w : World) (h : LgS w b v s) :
    Calls Tryz.prog 9 #[.pointer (some ⟨b, 0, none⟩)] w fun e w' => e = .returned (errV s.sync.2) ∧ LgS w' b v s.sync.1 ∧ Kept [b] w w' := by
  obtain ⟨x, ⟨h1, h2⟩, h3⟩ := h
  cases hst : s.st
  · have ST := hide (lgStep hs.lef.1 hs.lef.2 w (by rw [hst] at h1; exact h1))
    have HV := hide h2
    have H3 := hide h3
    have hbs := hs.bytes_len
    have hxs := bytes_size h3
    have q5 := ObjAt.cell h1 (i := 5) rfl
    rw [hst] at q5
    by_cases hl : s.left = 0
    · have e : s.sync = ({ s with left := -1, st := true }, 6) := by unfold LS.sync; rw [if_neg (by simp [hst]), if_pos hl]
      rw [e, ← errV_6]
      rw [hl] at ST
      have hz : (0 : Int) == 0 := rfl
      clear h1 h2 h3 e hxs
      go_enter Tryz.func9, Tryz.ntmps9
      go_wp2_with fail
      refine ST.out.mono ?_
      rintro e w1 ⟨rfl, ho, hk⟩
      have HO := hide ho
      clear ho
      go_wp2
      go_ret
      exact ⟨rfl, ⟨x, ⟨HO.out, HV.out.kept hk⟩, H3.out⟩, hk⟩
    · have e : s.sync = ({ s with safe := s.bytes.length, left := stepL s.left, st := false }, 0) := by unfold LS.sync; rw [if_neg (by simp [hst]), if_neg hl]
      rw [e, errV_0]
      have hz : (s.left == 0) = false := beq_eq_false_iff_ne.2 hl
      rw [hz] at ST
      have HX := hide hxs
      clear h1 h2 h3 e hxs hz hl
      go_enter Tryz.func9, Tryz.ntmps9
      go_wp2_with fail
      refine ST.out.mono ?_
      rintro e w1 ⟨rfl, ho, hk⟩
      have HO := hide ho
      have c1 := ObjAt.cell ho (i := 1) rfl
      have c3 := ObjAt.cell ho (i := 3) rfl
      have f3 := ObjAt.free ho 3
      have HK := hide (hk.setCell (p := ⟨b, 3, none⟩) (.inl (by simp)) (.int .i64 (x.size : Int)))
      have HR := hide ((HV.out.kept hk).kept ((Kept.refl [b] w1).setCell (p := ⟨b, 3, none⟩) (.inl (by simp)) (.int .i64 (x.size : Int))))
      clear ho hk
      go_wp2
      go_ret
      refine ⟨rfl, ⟨x, ⟨?_, HR.out⟩, H3.out⟩, HK.out⟩
      show LgO _ _ _ _ _ (s.bytes.length : Int) _ _
      rw [← HX.out]
      exact HO.out.set 3 _
  · have e : s.sync = (s, 6) := by unfold LS.sync; rw [if_pos hst]
    rw [e, ← errV_6]
    have q5 := ObjAt.cell h1 (i := 5) rfl
    rw [hst] at q5
    have HA := hide (⟨x, ⟨h1, h2⟩, h3⟩ : LgS w b v s)
    clear h1 h2 h3 e
    go_enter Tryz.func9, Tryz.ntmps9
    go_wp2
    go_ret
    exact ⟨rfl, HA.out, Kept.refl _ _⟩
end Go.Proofs.YtjbpkmmpbhngbaaGreatDoor
