/- A strings.Builder of the call's own: WriteString by contract, with which blocks turn. Contracts of the shelf: IndexByte. strings.Lines: its iterator by contract, for whatever rounds. A loop over strings.Lines: the law of its walk: the body is walked once, at the k-th line, with whatever the caller keeps between two rounds. -/
import Derived.Test.YtlnghfmcofmkjaaGreatDoorShRun
import Derived.Lib.OthersKept
import Derived.BigCall
import Derived.BigGuard
import Derived.Shelf.Small.Strs
import Derived.Test.YtlnghfmcofmkjaaGreatDoorProg
import Derived.RangeFuncNested
import Derived.RangeFuncBound
import Derived.RangeFuncCalls
import Derived.RangeFuncLeaves
import Derived.Shelf.Abstract
import Derived.Shelf.RegionOpen
import Derived.WalkKit
import Derived.OwnWalkIn
import Derived.TacticsInMore
import Derived.LoopNIn
import Derived.LoopIn
import Derived.RegionIn
import Derived.Test.YtlnghfmcofmkjaaGreatDoorRunComesProofM2
import Derived.Test.YtlnghfmcofmkjaaGreatDoorObj
namespace Go.Proofs.YtlnghfmcofmkjaaGreatDoor
open Go.RowKit Go.Shelf

theorem app_where {P : Program} {w : World} (t u ty e : TypeId) (i : TypeInfo) (ht : P.underlying t = some (.slice e)) (hu : P.underlying u = some .string) (hi : P.info? e = some i) (hz : i.zero = some (.int .u8 0))
    (hsize : i.size = 1) (hby : i.bytes = 1) (base : Nat) (v : Value) (n : Nat) (xs : List Value) (hown : w.ownsRowF base e 1 v n xs) (s : ByteArray)
    (h63 : n + s.size ≤ maxLen) (hbytes : n + s.size ≤ 140737488355328) {v' : Value} {w' : World} (hr : (Builtin.append_ #[t, u] ty #[v, .string s]).run P w = .ok v' w') :
    v'.ownBlock = v.ownBlock ∨ ∃ g, v'.ownBlock = some g ∧ w.heap.size ≤ g := by
  rcases hown.2 with ⟨rfl, rfl⟩ | ⟨g, cap, cur, fz, rfl, hbg, hg, hfz, hnc, hcm, hcs, htake⟩
  · obtain ⟨v2, w2, h1, h2, _, _⟩ := Lib.run_append_own_stringF (P := P) w w.heap.size t u ty e i ht hu hi hz hsize hby (.slice none 0 0) 0 xs ⟨hown.1, .inl ⟨rfl, rfl⟩⟩ s h63 hbytes (Nat.le_refl _)
    rw [hr] at h1
    obtain ⟨rfl, rfl⟩ : v' = v2 ∧ w' = w2 := by injection h1 with h3 h4; exact ⟨h3, h4⟩
    cases hv : v'.ownBlock with
    | none => exact .inl rfl
    | some g => exact .inr ⟨g, rfl, (h2.lt g hv).1⟩
  · have hxl : xs.length = n := by simpa using hown.1
    by_cases hroom : n + s.size ≤ cap
    · have hcs' : cur.size = cap := by simpa using hcs
      have h1 := Lib.run_append_room_stringF (P := P) w t u ty e i ht hu hi hsize g n cap cur fz hg (by simpa using hfz) s hroom (by omega)
      rw [hr] at h1
      injection h1 with h3 h4
      exact .inl (by rw [h3]; rfl)
    · have holds : ∀ j u, xs[j]? = some u → w.cell? ((⟨g, 0, none⟩ : Addr).add j) = some u := hown.cells (g := g) rfl
      have h1 := Lib.run_append_grow_string (P := P) w t u ty e i (.int .u8 0) ht hu hi hz ⟨g, 0, none⟩ n cap xs (by rw [hsize]; simpa using hxl) holds s (by omega) (by simp only [maxLen] at h63; omega) (by rw [hby]; exact growslice_fits (by omega) (by omega))
      rw [hr] at h1
      injection h1 with h3 h4
      exact .inr ⟨w.heap.size, by rw [h3]; rfl, Nat.le_refl _⟩
theorem wpList_append_text {P : Program} {w : World} {ops : Array Oper} {rest : List Oper} {o : Oper} {a : Act} {Q : Exit → Act → World → Prop} (hgd : o.guard = none) (sl x : Operand) (t u : TypeId)
    (ho : o.op = .call { callee := .builtin .append, args := #[sl, x], argTypes := #[t, u] })
    (base : Nat) (e : TypeId) (i : TypeInfo) (ht : P.underlying t = some (.slice e)) (hu : P.underlying u = some .string) (hi : P.info? e = some i) (hz : i.zero = some (.int .u8 0))
    (hsize : i.size = 1) (hby : i.bytes = 1)
    (v : Value) (n : Nat) (xs : List Value) (hs : a.eval sl = v) (hown : w.ownsRowF base e 1 v n xs) (s : ByteArray) (hx : a.eval x = .string s)
    (h63 : n + s.size ≤ maxLen) (hbytes : n + s.size ≤ 140737488355328) (hbase : base ≤ w.heap.size)
    (h : ∀ v' w', w'.ownsRowF base e 1 v' (n + s.size) (xs ++ Lib.strCells s) → w.grownBy w' v.ownBlock → (v'.ownBlock = v.ownBlock ∨ ∃ g, v'.ownBlock = some g ∧ w.heap.size ≤ g) → wpList P ops Q rest (a.put o.dst v') w') : wpList P ops Q (o :: rest) a w := by
  refine wpList_plain hgd fun K hK => ?_
  obtain ⟨v', w', hr, h2, h3, _⟩ := Lib.run_append_own_stringF (P := P) w base t u o.type e i ht hu hi hz hsize hby v n xs hown s h63 hbytes hbase
  have h5 := app_where t u o.type e i ht hu hi hz hsize hby base v n xs hown s h63 hbytes hr
  unfold Oper.wp execOp
  simp only [ho, resolve, invoke, builtin, Sem.run_bind, Sem.run_pure, Result.andThen_ok, List.map_toArray, List.map_cons, List.map_nil, hs, hx, hr]
  exact hK _ _ (h v' w' h2 h3 h5)
/-- the builder at b holds the bytes l in the row of v -/
structure BW (w : World) (b : Nat) (v : Value) (l : List UInt8) : Prop where
  hd : ∃ p, (p = .pointer none ∨ p = .pointer (some ⟨b, 0, none⟩)) ∧ ObjAt w b 41 [p, v]
  own : w.ownsRowF b 5 1 v l.length (Lib.byteCells l)
  ne : v.ownBlock ≠ some b
/-- the blocks of a builder -/
def bwF (b : Nat) (v : Value) : List Nat := b :: v.ownBlock.toList
theorem mem_bwF {b x : Nat} {v : Value} : x ∈ bwF b v ↔ x = b ∨ v.ownBlock = some x := by
  unfold bwF
  cases v.ownBlock <;> simp [eq_comm]
theorem BW.lt {w : World} {b : Nat} {v : Value} {l : List UInt8} (h : BW w b v l) : ∀ x ∈ bwF b v, b ≤ x ∧ x < w.heap.size := by
  intro x hx
  obtain ⟨p, _, ho⟩ := h.hd
  rcases mem_bwF.1 hx with rfl | hx
  · exact ⟨Nat.le_refl _, ho.lt⟩
  · exact h.own.lt x hx
theorem BW.kept {S : List Nat} {w w' : World} {b : Nat} {v : Value} {l : List UInt8} (h : BW w b v l) (hk : Kept S w w') (hn : ∀ x ∈ bwF b v, x ∉ S) : BW w' b v l := by
  obtain ⟨p, hp, ho⟩ := h.hd
  refine ⟨⟨p, hp, hk.obj ho (hn b (mem_bwF.2 (.inl rfl)))⟩, ⟨h.own.1, ?_⟩, h.ne⟩
  rcases h.own.2 with h1 | ⟨g, cap, cur, fz, rfl, hb, hg, rest⟩
  · exact .inl h1
  · exact .inr ⟨g, cap, cur, fz, rfl, hb, (hk.block g (Array.getElem?_eq_some_iff.1 hg).1 (hn g (mem_bwF.2 (.inr rfl)))).trans hg, rest⟩
theorem BW.isB {w : World} {b : Nat} {v : Value} {l : List UInt8} (h : BW w b v l) : Lib.IsBuilderF 41 5 b b (Lib.byteCells l) w := by
  obtain ⟨p, hp, ho⟩ := h.hd
  have h1 : Lib.BuilderAtF 41 5 b b p (Lib.byteCells l) w := ⟨Nat.le_refl _, v, ho, by rw [Lib.byteCells_length]; exact h.own, h.ne⟩
  rcases hp with rfl | rfl
  · exact .inl h1
  · exact .inr h1
theorem BW.new (w : World) : BW (w.alloc (.cells #[.pointer none, .slice none 0 0] 41)) w.heap.size (.slice none 0 0) [] :=
  ⟨⟨_, .inl rfl, ObjAt.new w _ [.pointer none, .slice none 0 0]⟩, World.ownsRowF_nil _ _ _ _, by simp [Value.ownBlock]⟩
theorem bwCopy {b : Nat} {v : Value} {l : List UInt8} (w : World) (h : BW w b v l) : Calls Tryz.prog 34 #[.pointer (some ⟨b, 0, none⟩)] w fun e w' => e = .returned (.tuple #[]) ∧ ObjAt w' b 41 [.pointer (some ⟨b, 0, none⟩), v] ∧ Kept [b] w w' := by
  obtain ⟨p, rfl | rfl, ho⟩ := h.hd
  · refine (Any.Builder_copyCheck_fresh (P := Tryz.prog) (ρ := Tryz.lays156_ren) { Tryz.lays156 with } Tryz.Builder_Extra_156.toX72 b w (ho.cell (i := 0) rfl) ?_ (ho.free 0)).mono ?_
    · have ho' : w.heap[b]? = some (.cells #[.pointer none, v] 41 (0, 0)) := ho
      simp [World.shape?, ho']
      rfl
    · rintro e w' ⟨rfl, rfl⟩
      exact ⟨rfl, ho.set 0 _, (Kept.refl _ _).setCell (.inl (by simp)) _⟩
  · refine (Any.Builder_copyCheck_used (P := Tryz.prog) (ρ := Tryz.lays156_ren) { Tryz.lays156 with } Tryz.Builder_Extra_156.toX72 b w (ho.cell (i := 0) rfl)).mono ?_
    rintro e w' ⟨rfl, rfl⟩
    exact ⟨rfl, ho, Kept.refl _ _⟩
theorem Tryz.infoByte : (Tryz.prog.info? 5).map (fun i => (i.zero, i.size, i.bytes)) = some (some (.int .u8 0), 1, 1) := by kernel_rfl
set_option maxRecDepth 100000 in
set_option maxHeartbeats 2000000 in
theorem bwWrite {b : Nat} {v : Value} {l : List UInt8} (s : ByteArray) (hl : l.length + s.size ≤ 140737488355328) (w : World) (h : BW w b v l) :
    Calls Tryz.prog 13 #[.pointer (some ⟨b, 0, none⟩), .string s] w fun e w' => e = .returned (.tuple #[.int .i64 s.size, .nilIface]) ∧ ∃ v', BW w' b v' (l ++ s.data.toList) ∧ Kept (bwF b v) w w' ∧ (v'.ownBlock = v.ownBlock ∨ ∃ g, v'.ownBlock = some g ∧ w.heap.size ≤ g) := by
  obtain ⟨i0, hi, hz0, hz1, hz2⟩ := info_parts Tryz.infoByte
  have Hi0 := hide hi
  have Hz0 := hide hz0
  have Hz1 := hide hz1
  have Hz2 := hide hz2
  have CC := hide (bwCopy w h)
  have HB := hide h
  have HL := hide hl
  clear hi hz0 hz1 hz2 h hl
  go_enter Tryz.func13, Tryz.ntmps13
  go_wp2_with fail
  refine CC.out.mono ?_
  rintro e w1 ⟨rfl, ho1, hk1⟩
  have hown1 : w1.ownsRowF b 5 1 v l.length (Lib.byteCells l) := by
    refine ⟨HB.out.own.1, ?_⟩
    rcases HB.out.own.2 with h1 | ⟨g, cap, cur, fz, hv, hb, hg, rest⟩
    · exact .inl h1
    · exact .inr ⟨g, cap, cur, fz, hv, hb, (hk1.block g (Array.getElem?_eq_some_iff.1 hg).1 (fun hm => by simp at hm; exact HB.out.ne (by rw [hv, hm]; rfl))).trans hg, rest⟩
  have c0 := ho1.cell (i := 0) rfl
  have c1 := ho1.cell (i := 1) rfl
  have HO1 := hide ho1
  have HK1 := hide hk1
  have HW1 := hide hown1
  clear ho1 hk1 hown1
  go_wp2_with (at_builtin; refine wpList_append_text rfl _ _ 39 9 rfl b 5 i0 Tryz.underlying39 Tryz.underlying9 Hi0.out Hz0.out Hz1.out Hz2.out _ _ _ rfl HW1.out s rfl ?c3 ?c4 ?c5 ?_)
  case c3 => have := HL.out; unfold maxLen; omega
  case c4 => exact HL.out
  case c5 => have := HO1.out.lt; omega
  intro v' w2 hown' hgrow hwh
  have hne := HB.out.ne
  have ho2 : ObjAt w2 b 41 [.pointer (some ⟨b, 0, none⟩), v] := (hgrow.block b HO1.out.lt (fun e => hne e.symm)).trans HO1.out
  have hk2 : Kept (bwF b v) w w2 := (HK1.out.mono (fun x hx => by simp at hx; subst hx; exact mem_bwF.2 (.inl rfl))).grown hgrow (fun k hk => .inl (mem_bwF.2 (.inr hk)))
  have d0 := ho2.cell (i := 0) rfl
  have d1 := ho2.cell (i := 1) rfl
  have f1 := ho2.free 1
  obtain ⟨ao, n', cap, rfl⟩ : ∃ ao n' cap, v' = .slice ao n' cap := by
    rcases hown'.2 with ⟨hv, _⟩ | ⟨g, cap, cur, fz, hv, _⟩
    · exact ⟨_, _, _, hv⟩
    · exact ⟨_, _, _, hv⟩
  have hne' : (Value.slice ao n' cap).ownBlock ≠ some b := by
    intro e'
    rcases hwh with h1 | ⟨g, h1, h2⟩
    · rw [h1] at e'; exact hne e'
    · rw [h1] at e'; have := Option.some.inj e'; have := HO1.out.lt; omega
  have hfin : BW (w2.setCell ⟨b, 1, none⟩ (.slice ao n' cap)) b (.slice ao n' cap) (l ++ s.data.toList) := by
    refine ⟨⟨_, .inr rfl, ho2.set 1 _⟩, ?_, hne'⟩
    have e1 : Lib.byteCells (l ++ s.data.toList) = Lib.byteCells l ++ Lib.strCells s := by rw [Lib.byteCells_append, Lib.strCells_eq]
    have e2 : (l ++ s.data.toList).length = l.length + s.size := by simp
    rw [e1, e2]
    refine hown'.kept (row := some b) ⟨rfl, rfl, rfl, by simp [World.setCell], fun k _ hk => Below.heap_setCell _ _ _ _ (fun e => hk (by rw [e]))⟩ (.inr hne')
  have hwh2 : (Value.slice ao n' cap).ownBlock = v.ownBlock ∨ ∃ g, (Value.slice ao n' cap).ownBlock = some g ∧ w.heap.size ≤ g := hwh.imp id (fun ⟨g, h1, h2⟩ => ⟨g, h1, Nat.le_trans HK1.out.size h2⟩)
  have hkf : Kept (bwF b v) w (w2.setCell ⟨b, 1, none⟩ (.slice ao n' cap)) := hk2.setCell (.inl (mem_bwF.2 (.inl rfl))) _
  have HF := hide (show BW (w2.setCell ⟨b, 1, none⟩ (.slice ao n' cap)) b (.slice ao n' cap) (l ++ s.data.toList) ∧ Kept (bwF b v) w (w2.setCell ⟨b, 1, none⟩ (.slice ao n' cap)) ∧ ((Value.slice ao n' cap).ownBlock = v.ownBlock ∨ ∃ g, (Value.slice ao n' cap).ownBlock = some g ∧ w.heap.size ≤ g) from ⟨hfin, hkf, hwh2⟩)
  clear hown' hgrow hwh hne ho2 hk2 hne' hfin hwh2 hkf
  go_wp2
  go_ret2
  exact ⟨rfl, _, HF.out⟩
end Go.Proofs.YtlnghfmcofmkjaaGreatDoor

namespace Go.Proofs.YtlnghfmcofmkjaaGreatDoor
open Go.Shelf

def Tryz.lays137_ren : Go.Shelf.Ren := ⟨fun | 137 => 33 | 217 => 46 | 266 => 60 | n => n, fun | 9 => 9 | 5 => 5 | 3 => 3 | n => n, fun | n => n⟩
theorem Tryz.lays137 : Go.Proofs.Lays.n137 Tryz.prog Tryz.lays137_ren := {
  mixed := by kernel_rfl
  f137 := Tryz.func33.trans (congrArg some (by kernel_rfl))
  f217 := Tryz.func46.trans (congrArg some (by kernel_rfl))
  f266 := Tryz.func60.trans (congrArg some (by kernel_rfl))
  t3 := Tryz.underlying3
  a3 := Tryz.isAgg3
  z3 := Tryz.sizeOf3
  v3 := Tryz.zeroValue3
  t5 := Tryz.underlying5
  a5 := Tryz.isAgg5
  z5 := Tryz.sizeOf5
  v5 := Tryz.zeroValue5
  t9 := Tryz.underlying9
  a9 := Tryz.isAgg9
  z9 := Tryz.sizeOf9
  v9 := Tryz.zeroValue9 }
open Go.RowKit in
/-- strings.IndexByte: "IndexByte returns the index of the first instance of c in s, or -1 if c is not present in s.": IT RETURNS 'Lib.indexByte s c'; the world is as it was. (LAID: no walk: one application.) -/
theorem Tryz.strings_IndexByte (s : ByteArray) (c : Int) (w : World) :
    Calls Tryz.prog 33 #[.string s, .int .u8 c] w fun e w' => e = .returned (.int .i64 (Lib.indexByte s.data.toList c.toNat.toUInt8)) ∧ w' = w := Any.strings_IndexByte Tryz.lays137 s c w
end Go.Proofs.YtlnghfmcofmkjaaGreatDoor

namespace Go.Proofs.YtlnghfmcofmkjaaGreatDoor
open Go.RowKit Go.Shelf
attribute [local go_sem] Oper.semAt_some

/-- how many bytes block b holds -/
def lenAt (b : Nat) (w : World) : Nat := match w.cell? ⟨b, 0, none⟩ with | some (.string t) => t.size | _ => 0
theorem lenAt_obj {w : World} {b : Nat} {t : ByteArray} (h : ObjAt w b 9 [.string t]) : lenAt b w = t.size := by
  unfold lenAt; rw [h.cell (i := 0) rfl]
theorem drop_head {α : Type} {l r : List α} {x : α} {k : Nat} (h : l.drop k = x :: r) : l[k]? = some x ∧ l.drop (k + 1) = r ∧ k < l.length := by
  have hk : k < l.length := by
    rcases Nat.lt_or_ge k l.length with h1 | h1
    · exact h1
    · rw [List.drop_of_length_le h1] at h; cases h
  rw [List.drop_eq_getElem_cons hk] at h
  obtain ⟨h1, h2⟩ := List.cons.inj h
  exact ⟨by rw [List.getElem?_eq_getElem hk, h1], h2, hk⟩
theorem grownBy_set (w : World) (b i : Nat) (v : Value) : w.grownBy (w.setCell ⟨b, i, none⟩ v) (some b) :=
  ⟨rfl, rfl, rfl, by simp [World.setCell], fun k _ hk => Below.heap_setCell w _ v k (fun e => hk (by rw [e]))⟩
theorem grownBy_drew (w : World) : w.grownBy w.drew none := ⟨rfl, rfl, rfl, Nat.le_refl _, fun _ _ _ => rfl⟩
set_option maxRecDepth 100000 in
set_option maxHeartbeats 2000000 in
theorem linesIter (n l bs : Nat) (hn1 : 1 ≤ n) (s : ByteArray) (hsz : s.size ≤ maxLen) (J : Nat → World → Prop)
    (hJ : ∀ k W W' row, J k W → W.grownBy W' row → (∀ r, row = some r → r = bs) → J k W')
    (hY : ∀ k W (x : ByteArray), (linesL s.data.toList)[k]? = some x.data.toList → J k W → YieldAt Fence.wide (n - 1) Tryz.prog l #[.string x] W fun e W' => e = .returned (.bool true) ∧ J (k + 1) W' ∧ W'.heap[bs]? = W.heap[bs]?)
    (W : World) (hc : ObjAt W bs 9 [.string s]) (h0 : J 0 W) :
    CallsIn Fence.wide n Tryz.prog 32 #[.func (.yield l) #[] #[], .pointer (some ⟨bs, 0, none⟩)] W fun e W' => (∃ v, e = .returned v) ∧ J (linesL s.data.toList).length W' := by
  unfold maxLen at hsz
  refine callsIn_of_wp Tryz.func32 rfl trivial ?_ rfl
  simp only [Tryz.ntmps32, List.size_toArray, List.length_cons, List.length_nil, Nat.reduceAdd, Nat.reduceSub, Array.replicate_succ, Array.replicate_zero, List.push_toArray, List.append_toArray, List.nil_append, List.cons_append]
  gi_wp2
  gi_loopw [3, 4] (fun _ _ wr => ∃ (k : Nat) (t : ByteArray), k ≤ (linesL s.data.toList).length ∧ t.size ≤ 9223372036854775807 ∧ (linesL s.data.toList).drop k = linesL t.data.toList ∧ ObjAt wr bs 9 [.string t] ∧ J k wr)
    (fun _ _ wr => lenAt bs wr)
  case atStart => exact ⟨0, s, Nat.zero_le _, by omega, rfl, hc, h0⟩
  case round =>
    obtain ⟨k, t, hkn, ht, hd, ho, hj⟩ := hrel
    obtain ⟨w9, rfl⟩ : ∃ x, x = wr := ⟨wr, rfl⟩
    have q := ho.cell (i := 0) rfl
    have f := ho.free 0
    by_cases hn : 0 < t.size
    · rcases line_first t hn with ⟨e1, e2⟩ | ⟨i, hi, e1, e2⟩
      · have hIX : ∀ W : World, Calls Tryz.prog 33 #[.string t, .int .u8 10] W fun e w' => e = .returned (.int .i64 (-1)) ∧ W = w' := fun W => by
          have := Tryz.strings_IndexByte t 10 W
          have e3 : Lib.indexByte t.data.toList (Int.toNat 10).toUInt8 = -1 := e1
          rw [e3] at this
          exact this.mono fun _ _ ⟨h1, h2⟩ => ⟨h1, h2.symm⟩
        have IX := hide hIX
        rw [e2] at hd
        obtain ⟨hx, hd2, hkl⟩ := drop_head hd
        have hl := lenAt_obj ho
        obtain ⟨W5, hW5⟩ : ∃ W5, W5 = w9.setCell ⟨bs, 0, none⟩ (.string ⟨#[]⟩) := ⟨_, rfl⟩
        have ho5 : ObjAt W5 bs 9 [.string ⟨#[]⟩] := by rw [hW5]; exact ho.set 0 _
        have hj5 : J k W5 := by rw [hW5]; exact hJ k _ _ _ hj (grownBy_set _ _ _ _) (fun r e => (Option.some.inj e).symm)
        obtain ⟨fn, tmps, assign, body, hy, hR⟩ := hY k W5 t hx hj5
        have HR := hide hR
        have HO5 := hide ho5
        have HD := hide hd2
        have HL := hide hl
        rw [hW5] at hy
        clear hIX e1 e2 hd hx hR ho5 hj5 hd2 ho hj hl
        gi_wp2_with (refine ⟨trivial, ?_⟩; gi_at_call 33; refine (callsIn_wide.2 (IX.out _)).mono ?_; rintro e w' ⟨rfl, rfl⟩)
        rw [← hW5]
        refine HR.out.mono ?_
        rintro e W3 ⟨rfl, hJ3, hk3⟩
        have ho3 : ObjAt W3 bs 9 [.string ⟨#[]⟩] := hk3.trans HO5.out
        gi_wp2
        go_roundw
        case rel => exact ⟨k + 1, ⟨#[]⟩, hkl, by decide, by rw [HD.out]; rfl, ho3, hJ3⟩
        case measure => rw [lenAt_obj ho3, HL.out]; exact hn
      · have hIX : ∀ W : World, Calls Tryz.prog 33 #[.string t, .int .u8 10] W fun e w' => e = .returned (.int .i64 (i : Int)) ∧ W = w' := fun W => by
          have := Tryz.strings_IndexByte t 10 W
          have e3 : Lib.indexByte t.data.toList (Int.toNat 10).toUInt8 = i := e1
          rw [e3] at this
          exact this.mono fun _ _ ⟨h1, h2⟩ => ⟨h1, h2.symm⟩
        have IX := hide hIX
        rw [e2] at hd
        obtain ⟨hx, hd2, hkl⟩ := drop_head hd
        have hl := lenAt_obj ho
        obtain ⟨W5, hW5⟩ : ∃ W5, W5 = (w9.setCell ⟨bs, 0, none⟩ (.string (t.extract (i + 1) t.size))).drew := ⟨_, rfl⟩
        have ho5 : ObjAt W5 bs 9 [.string (t.extract (i + 1) t.size)] := by rw [hW5]; exact (ho.set 0 _).drew
        have hj5 : J k W5 := by rw [hW5]; exact hJ k _ _ _ (hJ k _ _ _ hj (grownBy_set _ _ _ _) (fun r e => (Option.some.inj e).symm)) (grownBy_drew _) (fun r e => by cases e)
        obtain ⟨fn, tmps, assign, body, hy, hR⟩ := hY k W5 (t.extract 0 (i + 1)) hx hj5
        have HR := hide hR
        have HO5 := hide ho5
        have HD := hide hd2
        have HL := hide hl
        have hsz2 : (t.extract (i + 1) t.size).size = t.size - (i + 1) := by simp
        have HSZ := hide hsz2
        rw [hW5] at hy
        clear hIX e1 e2 hd hx hd2 ho hj hl hR ho5 hj5 hsz2
        gi_wp2_with (refine ⟨trivial, ?_⟩; gi_at_call 33; refine (callsIn_wide.2 (IX.out _)).mono ?_; rintro e w' ⟨rfl, rfl⟩)
        gi_region
        rw [hW5] at HR
        gi_wp2
        refine HR.out.mono ?_
        rw [← hW5]
        rintro e W3 ⟨rfl, hJ3, hk3⟩
        have ho3 : ObjAt W3 bs 9 [.string (t.extract (i + 1) t.size)] := hk3.trans HO5.out
        gi_wp2
        go_roundw
        case rel => exact ⟨k + 1, _, hkl, by rw [HSZ.out]; omega, HD.out, ho3, hJ3⟩
        case measure => rw [lenAt_obj ho3, HL.out, HSZ.out]; omega
    · have ht0 : t.size = 0 := by omega
      have hl0 : t.data.toList = [] := by
        have : t.data.toList.length = 0 := by simpa using ht0
        exact List.length_eq_zero_iff.1 this
      have hd2 : (linesL s.data.toList).drop k = [] := by rw [hd, hl0]; rfl
      have hk2 : k = (linesL s.data.toList).length := by have := List.drop_eq_nil_iff.1 hd2; omega
      have HK := hide hk2
      have HJ := hide hj
      clear hd2 hl0 hk2 hd hj
      gi_wp2
      go_end0
      exact ⟨⟨_, rfl⟩, by rw [← HK.out]; exact HJ.out⟩
end Go.Proofs.YtlnghfmcofmkjaaGreatDoor

namespace Go.Proofs.YtlnghfmcofmkjaaGreatDoor
open Go.RowKit Go.Shelf

theorem linesNew (s : ByteArray) (w : World) : Calls Tryz.prog 12 #[.string s] w fun e w' => e = .returned (.func (.func 32) #[] #[.pointer (some ⟨w.heap.size, 0, none⟩)]) ∧ w' = w.alloc (.cells #[.string s] 9) := by
  go_enter Tryz.func12, Tryz.ntmps12
  go_wp2
  go_ret
  exact ⟨rfl, rfl⟩

/-- how a round is left: off its end -/
def roundOk (B bs : Nat) (R : World → Prop) (W : World) : Exit → Act → World → Prop
  | .normal, _, W' => KeepsFrom B W W' ∧ W'.heap[bs]? = W.heap[bs]? ∧ R W'
  | _, _, _ => False
/-- what a caller may keep between two rounds -/
def StandsLn (B bs : Nat) (I : Nat → World → Prop) : Prop :=
  ∀ k W W' row, I k W → W.grownBy W' row → (∀ r, row = some r → r = bs ∨ (B ≤ r ∧ ∃ o : Obj, W.heap[r]? = some o ∧ o.isCells = false)) → I k W'
theorem wp_lines {n : Nat} (hn : 3 ≤ n) {g : Operand} {p : Tmp} {assign body : Code} {Q : Exit → Act → World → Prop} {a : Act} {w : World} {bs : Nat} {s : ByteArray} (hsz : s.size ≤ maxLen)
    (hg : a.eval g = .func (.func 32) #[] #[.pointer (some ⟨bs, 0, none⟩)]) (hc : ObjAt w bs 9 [.string s])
    (I : Nat → World → Prop) (hI : StandsLn w.heap.size bs I) (h0 : I 0 w) (a₁ : ByteArray → Act)
    (hassign : ∀ (l : Nat) (x : ByteArray) (W : World) (K : Act → World → Prop), K (a₁ x) W →
      assign.wpIn (Fence.wide.inRound l) (n - 1 - 1) Tryz.prog (Exit.then K (fun _ _ _ => False)) { tmps := a.tmps.setIfInBounds p (.string x), defers := [] } W)
    (hbody : ∀ (l k : Nat) (x : ByteArray) (W : World), w.heap.size ≤ l → (linesL s.data.toList)[k]? = some x.data.toList → I k W → body.wpIn (Fence.wide.inRound l) (n - 1 - 1) Tryz.prog (roundOk w.heap.size bs (I (k + 1)) W) (a₁ x) W)
    (hdone : ∀ (D : Nat) (W : World), w.heap.size ≤ D → I (linesL s.data.toList).length W → W.heap[D]? = some (.deferred (some [])) → Q .normal { a with defers := { target := .collected D, args := #[] } :: a.defers } W) :
    (Code.rangeFunc g #[p] assign body).wpIn Fence.wide n Tryz.prog Q a w := by
  have hbl : bs < w.heap.size := hc.lt
  refine wpIn_rangeFunc ?_
  intro fn hfn
  obtain ⟨L, hL⟩ : ∃ L : LoopState → Option Code → Loop, L = fun st pe => { state := st, pending := pe, fn, tmps := a.tmps, params := #[p], assign, body, defers := w.heap.size } := ⟨_, rfl⟩
  obtain ⟨V, hV⟩ : ∃ V, (w.alloc (.deferred (some []))).alloc (.loop (L .ready none)) = V := ⟨_, rfl⟩
  have v1 : V.heap[w.heap.size + 1]? = some (.loop (L .ready none)) := by
    rw [← hV]
    have h := World.alloc_heap_new (w.alloc (.deferred (some []))) (.loop (L .ready none))
    rwa [World.size_alloc] at h
  have v0 : V.heap[w.heap.size]? = some (.deferred (some [])) := by
    rw [← hV]; exact (Below.heap_alloc _ _ _ (by simp)).trans (World.alloc_heap_new w _)
  have gr : ∀ (W : World) (o : Obj), W.grownBy (W.alloc o) none := fun W o => World.grownBy_alloc W o none
  have hIV : I 0 V := by
    rw [← hV]; exact hI _ _ _ _ (hI _ _ _ _ h0 (gr _ _) (fun r e => by cases e)) (gr _ _) (fun r e => by cases e)
  have hcV : ObjAt V bs 9 [.string s] := by rw [← hV]; exact (hc.alloc _).alloc _
  refine ⟨w.heap.size + 1, [{ target := .collected w.heap.size, args := #[] }], V, { target := .fn (.func 32) #[.pointer (some ⟨bs, 0, none⟩)], args := #[.func (.yield (w.heap.size + 1)) #[] #[]] }, V, 32,
    #[.func (.yield (w.heap.size + 1)) #[] #[], .pointer (some ⟨bs, 0, none⟩)], V, ?_, ?_, fun _ _ => trivial, ?_, fun _ => by omega, ?_⟩
  · rw [← hV, hL]; exact run_enterLoop_outer _ _ _ _ _
  · simp only [resolve, hg]
    simp [go_sem]
  · simp [invoke, go_sem]
  · have step : ∀ (W : World) (r : Nat) (o o' : Obj) (k : Nat), I k W → w.heap.size ≤ r → W.heap[r]? = some o → o.isCells = false → I k (W.putObj r o') := fun W r o o' k h hr ho hk =>
      hI _ _ _ _ h (grownBy_putObj' W r o') (fun x e => by cases e; exact .inr ⟨hr, o, ho, hk⟩)
    refine (linesIter (n - 1) (w.heap.size + 1) bs (by omega) s hsz
      (fun k W => I k W ∧ W.heap[w.heap.size + 1]? = some (.loop (L .ready none)) ∧ W.heap[w.heap.size]? = some (.deferred (some [])))
      (fun k A B row h hgr hrow => ?_) ?_ V hcV ⟨hIV, v1, v0⟩).mono ?_
    · obtain ⟨h1, h2, h3⟩ := h
      have ne : ∀ j, w.heap.size ≤ j → row ≠ some j := fun j hj e => by have := hrow j e; omega
      have l2 : w.heap.size + 1 < A.heap.size := (Array.getElem?_eq_some_iff.1 h2).1
      exact ⟨hI _ _ _ _ h1 hgr (fun r e => .inl (hrow r e)), (hgr.block _ l2 (fun e => ne _ (by omega) e.symm)).trans h2, (hgr.block _ (by omega) (fun e => ne _ (Nat.le_refl _) e.symm)).trans h3⟩
    · rintro k W x hx ⟨h1, h2, h3⟩
      have l2 : w.heap.size + 1 < W.heap.size := (Array.getElem?_eq_some_iff.1 h2).1
      have hy := run_yield (P := Tryz.prog) (args := #[.string x]) h2 (by rw [hL]; rfl)
      obtain ⟨W2, hW2⟩ : ∃ W2, W.putObj (w.heap.size + 1) (.loop { L .ready none with state := .busy }) = W2 := ⟨_, rfl⟩
      have hbg := run_beginRound (P := Tryz.prog) h2 (by rw [hL])
      rw [hW2] at hbg
      have b1 : I k W2 := by rw [← hW2]; exact step _ _ _ _ _ h1 (by omega) h2 rfl
      have b2 : W2.heap[w.heap.size + 1]? = some (.loop { L .ready none with state := .busy }) := by rw [← hW2]; exact World.putObj_heap_same l2
      have b3 : W2.heap[w.heap.size]? = some (.deferred (some [])) := by rw [← hW2]; exact (World.putObj_heap_other (by omega)).trans h3
      have b4 : W2.heap[bs]? = W.heap[bs]? := by rw [← hW2]; exact World.putObj_heap_other (by omega)
      clear hW2
      have hy2 : (Instr.yield (w.heap.size + 1) #[.string x]).run Tryz.prog W = .ok (.round (w.heap.size + 1) fn (a.tmps.setIfInBounds p (.string x)) assign body) W := by
        rw [hy, hL]
        simp
      refine ⟨fn, _, assign, body, hy2, roundIn_of_wpIn hfn (wpIn_mono (hassign _ x W (fun a' W' => a' = a₁ x ∧ W' = W) ⟨rfl, rfl⟩) ?_)⟩
      rintro e a3 W3 hp
      cases e with
      | normal =>
        obtain ⟨rfl, rfl⟩ := hp
        refine ⟨W2, hbg, wpIn_mono (hbody _ k x W2 (by omega) hx b1) ?_⟩
        rintro e a4 W4 hp
        cases e with
        | normal =>
          obtain ⟨k4, b5, i4⟩ := hp
          have r4 := k4.same _ _ (by omega) b2 rfl
          have d4 := k4.same _ _ (Nat.le_refl _) b3 rfl
          have en := run_endRound (P := Tryz.prog) none r4
          refine ⟨_, _, en, rfl, ⟨step _ _ _ _ _ i4 (by omega) r4 rfl, ?_, (World.putObj_heap_other (by omega)).trans d4⟩, (World.putObj_heap_other (by omega)).trans (b5.trans b4)⟩
          rw [World.putObj_heap_same (Array.getElem?_eq_some_iff.1 r4).1, hL]
          rfl
        | _ => exact hp.elim
      | _ => exact hp.elim
    · rintro e W ⟨⟨v, rfl⟩, h1, h2, h3⟩
      have en := run_endLoop (P := Tryz.prog) h2 (by rw [hL]; simp)
      have e2 : (L .ready none).pending = none := by rw [hL]
      rw [e2] at en
      exact ⟨none, _, en, hdone _ _ (Nat.le_refl _) (step _ _ _ _ _ h1 (by omega) h2 rfl) ((World.putObj_heap_other (by omega)).trans h3)⟩
end Go.Proofs.YtlnghfmcofmkjaaGreatDoor
