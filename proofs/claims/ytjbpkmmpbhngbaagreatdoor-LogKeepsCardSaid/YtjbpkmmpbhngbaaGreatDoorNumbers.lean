/- log: numbers of a record by contract. -/
import Derived.Test.YtjbpkmmpbhngbaaGreatDoorRecP
import Derived.Test.YtjbpkmmpbhngbaaGreatDoorShLog
import Derived.Lib.AtoiErrMem
namespace Go.Proofs.YtjbpkmmpbhngbaaGreatDoor
open Go.RowKit

/-- the table of white space -/
def SpaW (w : World) : Prop := Lib.TabIs Tryz.prog w "strings.asciiSpace" .u8 Lib.asciiSpaceTab
theorem Tryz.spaG : Tryz.prog.globalNamed "strings.asciiSpace" = some 4 := by kernel_rfl
theorem SpaW.of_block {w w' : World} (h : SpaW w) (hb : w'.heap[4]? = w.heap[4]?) : SpaW w' := by
  unfold SpaW Lib.TabIs World.var? at h ⊢
  rw [Tryz.spaG] at h ⊢
  simp only [Option.bind_some] at h ⊢
  rw [hb]
  exact h
theorem SpaW.lt {w : World} (h : SpaW w) : 4 < w.heap.size := by
  unfold SpaW Lib.TabIs World.var? at h
  rw [Tryz.spaG] at h
  simp only [Option.bind_some] at h
  by_cases hl : 4 < w.heap.size
  · exact hl
  · rw [Array.getElem?_eq_none (by omega)] at h
    simp at h
theorem SpaW.below {w w' : World} {B : Nat} (h : SpaW w) (hb : Below B w w') (hB : 4 < B) : SpaW w' := h.of_block (hb.block _ hB)
theorem SpaW.next {w w' : World} (h : SpaW w) (hb : Below w.heap.size w w') : SpaW w' := h.below hb h.lt

theorem atoi_num {n : Int} (h0 : 0 ≤ n) (h1 : n < 1000000) (w : World) :
    Calls Tryz.prog 79 #[.string (numB n)] w fun e w' => e = .returned (.tuple #[.int .i64 n, .nilIface]) ∧ Below w.heap.size w w' := by
  refine (Tryz.strconv_Atoi (numB n) n (by have := numB_size h0 h1; omega) (numL_atoi h0) w).mono ?_
  rintro e w' ⟨rfl, t, rfl⟩
  exact ⟨rfl, Lib.bytesWorld_below _ _ _⟩
/-- what stands in the three numbers when k of a record's are laid -/
def numAt (r : Rec) : Nat → List Value
  | 0 => [.int .i64 0, .int .i64 0, .int .i64 0]
  | 1 => [.int .i64 r.n, .int .i64 0, .int .i64 0]
  | 2 => [.int .i64 r.n, .int .i64 r.u, .int .i64 0]
  | _ => [.int .i64 r.n, .int .i64 r.u, .int .i64 r.now]
set_option maxHeartbeats 4000000 in
theorem lgNumbers {r : Rec} (hr : r.ok) (x : ByteArray) (hx : x.data.toList = r.row) (w : World) (htab : SpaW w) :
    Calls Tryz.prog 57 #[.string x] w fun e w' => e = .returned (.tuple #[.agg #[.int .i64 r.n, .int .i64 r.u, .int .i64 r.now], .nilIface]) ∧ Below w.heap.size w w' := by
  have hsz : x.size < 4294967281 := by
    have h1 := recB_size hr.1 hr.2.1 hr.2.2
    have h2 : x.data.toList.length = (recB r.n r.u r.now).data.toList.length := by rw [hx, recB_list]
    have h3 : x.data.toList.length = x.size := by simp
    have h4 : (recB r.n r.u r.now).data.toList.length = (recB r.n r.u r.now).size := by simp
    omega
  have hF : ∀ W : World, Below w.heap.size w W → Calls Tryz.prog 78 #[.string x] W fun e w' => e = .returned (.slice (some ⟨W.heap.size, 0, none⟩) (3 : Nat) (3 : Nat)) ∧ W.alloc (.cells #[.string (numB r.n), .string (numB r.u), .string (numB r.now)] 9) = w' := fun W hW => by
    have h := Tryz.strings_Fields x W hsz (fun j b hb => by rw [hx] at hb; exact Rec.row_ascii hr b (List.mem_of_getElem? hb)) (htab.next hW)
    rw [hx, Rec.fields hr] at h
    exact h.mono fun _ _ ⟨h1, h2⟩ => ⟨h1, h2.symm⟩
  have F := hide hF
  have A1 := hide (atoi_num hr.1.1 hr.1.2)
  have A2 := hide (atoi_num hr.2.1.1 hr.2.1.2)
  have A3 := hide (atoi_num hr.2.2.1 hr.2.2.2)
  clear hF hsz hx htab
  go_enter Tryz.func57, Tryz.ntmps57
  go_wp2_with fail
  refine (F.out _ (by go_grown)).mono ?_
  rintro e w1 ⟨rfl, rfl⟩
  go_wp2
  go_loopw [12] (fun i wr => ∃ k : Nat, i = .int .i64 (k : Int) ∧ k ≤ 3 ∧ Hid (Below w.heap.size w wr) ∧ Hid (ObjAt wr w.heap.size 37 [.int .i64 0, .int .i64 0, .int .i64 0]) ∧ Hid (ObjAt wr (w.heap.size + 1) 37 (numAt r k)) ∧ Hid (ObjAt wr (w.heap.size + 1 + 1) 9 [.string (numB r.n), .string (numB r.u), .string (numB r.now)]))
    (fun i _ => 3 - (intOf i).toNat)
  case atStart =>
    refine ⟨0, rfl, by omega, ?_, ?_, ?_, ?_⟩
    · exact (((Below.refl _ _).alloc (Nat.le_refl _) _).alloc (by simp) _).alloc (by simp; omega) _
    · exact ((ObjAt.new w _ _).alloc _).alloc _
    · exact (objNew (by simp)).alloc _
    · exact objNew (by simp)
  case round =>
    obtain ⟨k, rfl, hk, hB, HO, HN, HS⟩ := hrel
    have A1 := A1.out
    have A2 := A2.out
    have A3 := A3.out
    rcases (by omega : k = 0 ∨ k = 1 ∨ k = 2 ∨ k = 3) with rfl | rfl | rfl | rfl
    · have z0 : ((0 : Nat) : Int) = 0 := rfl
      rw [z0]
      have l0 := HS.out.cell (i := 0) rfl
      go_wp2_with fail
      refine (A1 wr).mono ?_
      rintro e w2 ⟨rfl, hb2⟩
      have HB2 := hide (hB.out.trans (hb2.mono hB.out.size))
      have HO2 := hide (HO.out.below hb2)
      have HN2 := hide (HN.out.below hb2)
      have HS2 := hide (HS.out.below hb2)
      have c0 := HN2.out.cell (i := 0) rfl
      have f0 := HN2.out.free 0
      have hsz2 := hb2.size
      clear l0 hb2 HO HN HS hB
      go_wp2
      go_roundw
      case rel => exact ⟨1, by go_num, by omega, hide (HB2.out.setCell (p := ⟨w.heap.size + 1, 0, none⟩) (by simp) _), hide (HO2.out.setOther (by simp) _), hide (HN2.out.set 0 _), hide (HS2.out.setOther (by simp) _)⟩
      case measure => simp [intOf]
    · have z1 : ((1 : Nat) : Int) = 1 := rfl
      rw [z1]
      have l0 := HS.out.cell (i := 1) rfl
      go_wp2_with fail
      refine (A2 wr).mono ?_
      rintro e w2 ⟨rfl, hb2⟩
      have HB2 := hide (hB.out.trans (hb2.mono hB.out.size))
      have HO2 := hide (HO.out.below hb2)
      have HN2 := hide (HN.out.below hb2)
      have HS2 := hide (HS.out.below hb2)
      have c0 := HN2.out.cell (i := 1) rfl
      have f0 := HN2.out.free 1
      have hsz2 := hb2.size
      clear l0 hb2 HO HN HS hB
      go_wp2
      go_roundw
      case rel => exact ⟨2, by go_num, by omega, hide (HB2.out.setCell (p := ⟨w.heap.size + 1, 1, none⟩) (by simp) _), hide (HO2.out.setOther (by simp) _), hide (HN2.out.set 1 _), hide (HS2.out.setOther (by simp) _)⟩
      case measure => simp [intOf]
    · have z2 : ((2 : Nat) : Int) = 2 := rfl
      rw [z2]
      have l0 := HS.out.cell (i := 2) rfl
      go_wp2_with fail
      refine (A3 wr).mono ?_
      rintro e w2 ⟨rfl, hb2⟩
      have HB2 := hide (hB.out.trans (hb2.mono hB.out.size))
      have HO2 := hide (HO.out.below hb2)
      have HN2 := hide (HN.out.below hb2)
      have HS2 := hide (HS.out.below hb2)
      have c0 := HN2.out.cell (i := 2) rfl
      have f0 := HN2.out.free 2
      have hsz2 := hb2.size
      clear l0 hb2 HO HN HS hB
      go_wp2
      go_roundw
      case rel => exact ⟨3, by go_num, by omega, hide (HB2.out.setCell (p := ⟨w.heap.size + 1, 2, none⟩) (by simp) _), hide (HO2.out.setOther (by simp) _), hide (HN2.out.set 2 _), hide (HS2.out.setOther (by simp) _)⟩
      case measure => simp [intOf]
    · have z3 : ((3 : Nat) : Int) = 3 := rfl
      rw [z3]
      have c0 := HN.out.cell (i := 0) rfl
      have c1 := HN.out.cell (i := 1) rfl
      have c2 := HN.out.cell (i := 2) rfl
      have d0 := HO.out.cell (i := 0) rfl
      have d1 := HO.out.cell (i := 1) rfl
      have d2 := HO.out.cell (i := 2) rfl
      have f0 := HO.out.free 0
      have f1 := HO.out.free 1
      have f2 := HO.out.free 2
      have hsz2 := hB.out.size
      have hfin : Below w.heap.size w (((wr.setCell ⟨w.heap.size, 0, none⟩ (.int .i64 r.n)).setCell ⟨w.heap.size, 1, none⟩ (.int .i64 r.u)).setCell ⟨w.heap.size, 2, none⟩ (.int .i64 r.now)) :=
        ((hB.out.setCell (p := ⟨w.heap.size, 0, none⟩) (by simp) _).setCell (p := ⟨w.heap.size, 1, none⟩) (by simp) _).setCell (p := ⟨w.heap.size, 2, none⟩) (by simp) _
      have HF2 := hide hfin
      have HX := hide (((HO.out.set 0 (.int .i64 r.n)).set 1 (.int .i64 r.u)).set 2 (.int .i64 r.now))
      have y0 := HX.out.cell (i := 0) rfl
      have y1 := HX.out.cell (i := 1) rfl
      have y2 := HX.out.cell (i := 2) rfl
      clear hfin
      go_wp2
      exact bodyPost_ret (v := .tuple #[.agg #[.int .i64 r.n, .int .i64 r.u, .int .i64 r.now], .nilIface]) (by simp [results, Tryz.results57, go_sem, y0, y1, y2]) rfl ⟨rfl, HF2.out⟩
end Go.Proofs.YtjbpkmmpbhngbaaGreatDoor
