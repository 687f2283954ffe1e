/- log: Spend by contracts. -/
import Derived.Test.YtjbpkmmpbhngbaaGreatDoorLog1
import Derived.Test.YtjbpkmmpbhngbaaGreatDoorItoa
namespace Go.Proofs.YtjbpkmmpbhngbaaGreatDoor
open Go.RowKit

/-- the record of a number, its time and the time -/
def recB (n u now : Int) : ByteArray := ((((numB n ++ ⟨#[32]⟩) ++ numB u) ++ ⟨#[32]⟩) ++ numB now) ++ ⟨#[10]⟩
/-- the table of powers of ten -/
def TabW (w : World) : Prop := Lib.TabIs Tryz.prog w "internal/strconv.uint64pow10" .u64 Lib.pow10Tab
theorem Tryz.powG : Tryz.prog.globalNamed "internal/strconv.uint64pow10" = some 5 := by kernel_rfl
theorem TabW.of_block {w w' : World} (h : TabW w) (hb : w'.heap[5]? = w.heap[5]?) : TabW w' := by
  unfold TabW Lib.TabIs World.var? at h ⊢
  rw [Tryz.powG] at h ⊢
  simp only [Option.bind_some] at h ⊢
  rw [hb]
  exact h
theorem TabW.lt {w : World} (h : TabW w) : 5 < w.heap.size := by
  unfold TabW Lib.TabIs World.var? at h
  rw [Tryz.powG] at h
  simp only [Option.bind_some] at h
  by_cases hl : 5 < w.heap.size
  · exact hl
  · rw [Array.getElem?_eq_none (by omega)] at h
    simp at h
theorem TabW.below {w w' : World} {B : Nat} (h : TabW w) (hb : Below B w w') (hB : 5 < B) : TabW w' := h.of_block (hb.block _ hB)
theorem TabW.next {w w' : World} (h : TabW w) (hb : Below w.heap.size w w') : TabW w' := h.below hb h.lt
theorem recB_size {n u now : Int} (hn : 0 ≤ n ∧ n < 1000000) (hu : 0 ≤ u ∧ u < 1000000) (hw : 0 ≤ now ∧ now < 1000000) : 6 ≤ (recB n u now).size ∧ (recB n u now).size ≤ 21 := by
  have h1 := numB_size hn.1 hn.2
  have h2 := numB_size hu.1 hu.2
  have h3 := numB_size hw.1 hw.2
  have e : (recB n u now).size = (numB n).size + 1 + (numB u).size + 1 + (numB now).size + 1 := by
    unfold recB
    simp only [ByteArray.size_append]
    rfl
  omega
theorem sp_nums {zs : List (Int × Int)} {n u now : Int} (h : spMoreE zs n u now = 0) : (0 ≤ n ∧ n < 1000000) ∧ (0 ≤ u ∧ u < 1000000) ∧ (0 ≤ now ∧ now < 1000000) := by
  rcases spMore_cases zs n u now with ⟨_, h1, h2, h3, _⟩ | h1
  · have a1 := of_decide_eq_true h1
    have a2 := tmB_true.1 h2
    have a3 := tmB_true.1 h3
    omega
  · exact absurd h h1
theorem lgSpend_stop {n u now : Int} {b : Nat} {v : Value} {s : ByteArray} {many safe left : Int} (w : World) (h : LgO w b v s many safe left true) :
    Calls Tryz.prog 8 #[.pointer (some ⟨b, 0, none⟩), .int .i64 n, .int .i64 u, .int .i64 now] w fun e w' => e = .returned (.iface 54 (.int .i64 6)) ∧ w = w' := by
  have q5 := ObjAt.cell h (i := 5) rfl
  clear h
  go_enter Tryz.func8, Tryz.ntmps8
  go_wp2
  go_ret
  exact ⟨rfl, rfl⟩
theorem lgSpend_bad {n u now c : Int} {zs : List (Int × Int)} {b : Nat} {v : Value} {s : ByteArray} {many safe left : Int} (hc : spMoreE zs n u now = c) (h0 : c ≠ 0) (w : World) (h : LG w b v zs s many safe left false) :
    Calls Tryz.prog 8 #[.pointer (some ⟨b, 0, none⟩), .int .i64 n, .int .i64 u, .int .i64 now] w fun e w' => e = .returned (errV c) ∧ Below w.heap.size w w' := by
  have C := hide (spMore_bad hc h0 v w h.2.1)
  have q5 := ObjAt.cell h.1 (i := 5) rfl
  have q0 := ObjAt.cell h.1 (i := 0) rfl
  have t0 : (c != 0) = true := bne_iff_ne.2 h0
  clear h hc h0
  go_enter Tryz.func8, Tryz.ntmps8
  go_wp2_with fail
  refine C.out.mono ?_
  rintro e w1 ⟨rfl, hb1⟩
  go_wp2
  go_ret
  exact ⟨rfl, hb1⟩
theorem lgSpend_full {n u now : Int} {zs : List (Int × Int)} {b : Nat} {v : Value} {s : ByteArray} {safe left : Int} (hc : spMoreE zs n u now = 0) (w : World) (h : LG w b v zs s 30 safe left false) :
    Calls Tryz.prog 8 #[.pointer (some ⟨b, 0, none⟩), .int .i64 n, .int .i64 u, .int .i64 now] w fun e w' => e = .returned (.iface 54 (.int .i64 4)) ∧ Below w.heap.size w w' := by
  have C := hide (spMore_ok hc v w h.2.1)
  have q5 := ObjAt.cell h.1 (i := 5) rfl
  have q0 := ObjAt.cell h.1 (i := 0) rfl
  have HO := hide h.1
  clear h hc
  go_enter Tryz.func8, Tryz.ntmps8
  go_wp2_with fail
  refine C.out.mono ?_
  rintro e w1 ⟨v', rfl, hown, hb1⟩
  have q2 := (ObjAt.below HO.out hb1).cell (i := 2) rfl
  clear hown
  go_wp2
  go_ret
  exact ⟨rfl, hb1⟩
theorem vNew.mono {w w1 W : World} {v : Value} (h : vNew w w1 v) (hs : w1.heap.size ≤ W.heap.size) : vNew w W v := h.imp id (fun ⟨g, h1, h2, h3⟩ => ⟨g, h1, h2, Nat.lt_of_lt_of_le h3 hs⟩)
theorem own_vnew0 {w : World} {base size n : Nat} {e : TypeId} {v : Value} {xs : List Value} {W : World} (h : w.ownsRow base e size v n xs) (hb : W.heap.size ≤ base) : vNew W w v := by
  rcases h.2 with ⟨rfl, _⟩ | ⟨g, cap, cur, rfl, h3, h4, _⟩
  · exact .inl rfl
  · exact .inr ⟨g, rfl, Nat.le_trans hb h3, lt_of_block h4⟩
set_option maxHeartbeats 4000000 in
theorem lgSpend_ok {n u now : Int} {zs ns : List (Int × Int)} {b : Nat} {v : Value} {s s' : ByteArray} {many safe left left' : Int} (hns : spDrop zs now ++ [(n, u)] = ns) (hc : spMoreE zs n u now = 0) (hl : zs.length ≤ 999) (hm : 0 ≤ many ∧ many < 30) (h0 : -1 ≤ left) (h1 : left ≤ 9223372036854775807) (h2 : left ≠ 0) (hll : stepL left = left') (hs : s.size ≤ 1000000) (hss : s ++ recB n u now = s') (w : World) (htab : TabW w) (h : LG w b v zs s many safe left false) :
    Calls Tryz.prog 8 #[.pointer (some ⟨b, 0, none⟩), .int .i64 n, .int .i64 u, .int .i64 now] w fun e w' => e = .returned .nilIface ∧ ∃ v', LG w' b v' ns s' (many + 1) safe left' false ∧ vNew w w' v' ∧ Kept [b] w w' := by
  obtain ⟨g1, g2, g3⟩ := sp_nums hc
  have hrs := recB_size g1 g2 g3
  have C := hide (spMore_ok hc v w h.2.1)
  have I1 := hide (fun W (hW : Below w.heap.size w W) => itoa_eq g1.1 g1.2 W (htab.next hW))
  have I2 := hide (fun W (hW : Below w.heap.size w W) => itoa_eq g2.1 g2.2 W (htab.next hW))
  have I3 := hide (fun W (hW : Below w.heap.size w W) => itoa_eq g3.1 g3.2 W (htab.next hW))
  have k1 := numB_size g1.1 g1.2
  have k2 := numB_size g2.1 g2.2
  have k3 := numB_size g3.1 g3.2
  have t0 : (left == 0) = false := beq_eq_false_iff_ne.2 h2
  have ST := hide (fun W (hO : LgO W b v s many safe left false) => lgStep h0 h1 W hO)
  rw [t0] at ST
  have q5 := ObjAt.cell h.1 (i := 5) rfl
  have q0 := ObjAt.cell h.1 (i := 0) rfl
  have HO := hide h.1
  have hbl := ObjAt.lt h.1
  have HS := hide hss
  have hdl : (spDrop zs now ++ [(n, u)]).length ≤ 1000 := by have := spDrop_le zs now; simp; omega
  rw [hns] at C hdl
  have HDL := hide hdl
  have tm : (many == 30) = false := beq_eq_false_iff_ne.2 (by omega)
  clear h hc hns hdl hss h2 h0 h1 t0 htab g1 g2 g3
  unfold recB at hrs
  have hS2 := HS.out
  unfold recB at hS2
  have HS2 := hide hS2
  clear hS2
  go_enter Tryz.func8, Tryz.ntmps8
  go_wp2_with fail
  refine C.out.mono ?_
  rintro e w1 ⟨v', rfl, hown, hb1⟩
  have HO1 := hide (ObjAt.below HO.out hb1)
  have q2 := HO1.out.cell (i := 2) rfl
  have HVR : Hid (VR w1 b v' ns) := hide (own_vr hown HDL.out (by omega))
  have HVN := hide (own_vnew0 hown (Nat.le_succ w.heap.size))
  obtain ⟨a', c', hv'⟩ := own_sl hown
  clear hown q0 q5
  go_wp2_with fail
  refine (I1.out _ hb1).mono ?_
  rintro e w2 ⟨rfl, hb2⟩
  have hB2 : Below w.heap.size w w2 := hb1.trans (hb2.mono hb1.size)
  go_wp2_with fail
  refine (I2.out _ hB2).mono ?_
  rintro e w3 ⟨rfl, hb3⟩
  have hB3 : Below w.heap.size w w3 := hB2.trans (hb3.mono hB2.size)
  go_wp2_with fail
  refine (I3.out _ hB3).mono ?_
  rintro e w4 ⟨rfl, hb4⟩
  have hB4 : Below w.heap.size w w4 := hB3.trans (hb4.mono hB3.size)
  have HO4 := hide (ObjAt.below HO.out hB4)
  have HVR4 : Hid (VR w4 b v' ns) := hide (HVR.out.below (hb2.trans ((hb3.mono hb2.size).trans (hb4.mono (Nat.le_trans hb2.size hb3.size)))))
  have hz4 : w1.heap.size ≤ w4.heap.size := Nat.le_trans hb2.size (Nat.le_trans hb3.size hb4.size)
  have hn1 : (numB n).size ≤ 6 := k1.2
  have hn2 : (numB u).size ≤ 6 := k2.2
  have hn3 : (numB now).size ≤ 6 := k3.2
  clear q2 HO1 HVR
  go_wp2_with fail
  refine (ST.out _ HO4.out).mono ?_
  rintro e w5 ⟨rfl, ho5, hk5⟩
  rw [hll] at ho5
  have c0 := ObjAt.cell ho5 (i := 0) rfl
  have c1 := ObjAt.cell ho5 (i := 1) rfl
  have c2 := ObjAt.cell ho5 (i := 2) rfl
  have f0 := ObjAt.free ho5 0
  have f1 := ObjAt.free ho5 1
  have f2 := ObjAt.free ho5 2
  have HO5 := hide ho5
  have hz5 := hk5.size
  have hkb : Kept [b] w5 (((w5.setCell ⟨b, 1, none⟩ (.string (s ++ recB n u now))).setCell ⟨b, 2, none⟩ (.int .i64 (many + 1))).setCell ⟨b, 0, none⟩ v') := (((Kept.refl _ _).setCell (.inl (by simp)) _).setCell (.inl (by simp)) _).setCell (.inl (by simp)) _
  have hfin : Hid (∀ S, s ++ recB n u now = S → LG (((w5.setCell ⟨b, 1, none⟩ (.string S)).setCell ⟨b, 2, none⟩ (.int .i64 (many + 1))).setCell ⟨b, 0, none⟩ v') b v' ns S (many + 1) safe left' false ∧ vNew w (((w5.setCell ⟨b, 1, none⟩ (.string S)).setCell ⟨b, 2, none⟩ (.int .i64 (many + 1))).setCell ⟨b, 0, none⟩ v') v' ∧ Kept [b] w (((w5.setCell ⟨b, 1, none⟩ (.string S)).setCell ⟨b, 2, none⟩ (.int .i64 (many + 1))).setCell ⟨b, 0, none⟩ v')) := by
    rintro S rfl
    exact ⟨⟨((HO5.out.set 1 _).set 2 _).set 0 _, (HVR4.out.kept hk5).kept hkb⟩, HVN.out.mono (by simp; omega), (Kept.of_below hB4 _).trans (hk5.trans hkb)⟩
  clear ho5 hk5 HO4 hkb HVR4 HVN
  subst hv'
  go_wp2
  go_ret
  rw [HS2.out]
  exact ⟨rfl, _, hfin.out _ HS.out⟩
end Go.Proofs.YtjbpkmmpbhngbaaGreatDoor
