/- spent: Has, Drop, and all of it at what is wrong, by contracts. -/
import Derived.Test.YtfehnfbmlomccaaDoorSpSpend
import Derived.Test.YtfehnfbmlomccaaDoorVault
namespace Go.Proofs.YtfehnfbmlomccaaDoor
open Go.RowKit

/-- Check tells the fault c of v, now and later. -/
def SpBad (v : Value) (c : Int) (w : World) : Prop := ∀ W, Below w.heap.size w W → Calls Tryd.prog 31 #[v] W fun e w' => e = .returned (errV c) ∧ Below W.heap.size W w'
theorem SpBad.below {v : Value} {c : Int} {w w1 : World} (h : SpBad v c w) (hb : Below w.heap.size w w1) : SpBad v c w1 := fun W hW => h W (hb.trans (hW.mono hb.size))
theorem spBad_psl {v : Value} {c : Int} {w : World} {zs : List (Int × Int)} (hv : PSl w v zs) (hc : spE zs = c) : SpBad v c w := fun W hW => spCheck hc v W (hv.below hW)
theorem spBad_long {a : Option Addr} {n c : Nat} (w : World) (h : 16 < n) (hm : n ≤ maxLen) : SpBad (.slice a n c) 4 w := by
  intro W _
  unfold maxLen at hm
  go_enter Tryd.func31, Tryd.ntmps31
  go_wp2
  go_ret
  exact ⟨rfl, Below.refl _ _⟩
theorem spSpend_f {v : Value} {c n u now : Int} (w : World) (h : SpBad v c w) (h0 : c ≠ 0) :
    Calls Tryd.prog 32 #[v, .int .i64 n, .int .i64 u, .int .i64 now] w fun e w' => e = .returned (.tuple #[.slice none 0 0, errV c]) ∧ Below w.heap.size w w' := by
  have C := hide (h w (Below.refl _ _))
  have t1 : (c != 0) = true := bne_iff_ne.2 h0
  clear h h0
  go_enter Tryd.func32, Tryd.ntmps32
  go_wp2_with fail
  refine C.out.mono ?_
  rintro e w1 ⟨rfl, hb1⟩
  go_wp2
  go_ret2
  exact ⟨rfl, hb1⟩
theorem spHas_f {v : Value} {c n : Int} (w : World) (h : SpBad v c w) (h0 : c ≠ 0) :
    Calls Tryd.prog 34 #[v, .int .i64 n] w fun e w' => e = .returned (.tuple #[.bool false, errV c]) ∧ Below w.heap.size w w' := by
  have C := hide (h w (Below.refl _ _))
  have t1 : (c != 0) = true := bne_iff_ne.2 h0
  clear h h0
  go_enter Tryd.func34, Tryd.ntmps34
  go_wp2_with fail
  refine C.out.mono ?_
  rintro e w1 ⟨rfl, hb1⟩
  go_wp2
  go_ret2
  exact ⟨rfl, hb1⟩
theorem spDrop_f {v : Value} {c now : Int} (w : World) (h : SpBad v c w) (h0 : c ≠ 0) :
    Calls Tryd.prog 37 #[v, .int .i64 now] w fun e w' => e = .returned (.tuple #[.slice none 0 0, errV c]) ∧ Below w.heap.size w w' := by
  have C := hide (h w (Below.refl _ _))
  have t1 : (c != 0) = true := bne_iff_ne.2 h0
  clear h h0
  go_enter Tryd.func37, Tryd.ntmps37
  go_wp2_with fail
  refine C.out.mono ?_
  rintro e w1 ⟨rfl, hb1⟩
  go_wp2
  go_ret2
  exact ⟨rfl, hb1⟩
theorem spCheck0 {zs : List (Int × Int)} (h : spE zs = 0) (v : Value) (w : World) (hv : PSl w v zs) : Calls Tryd.prog 31 #[v] w fun e w' => e = .returned .nilIface ∧ Below w.heap.size w w' := spCheck (c := 0) h v w hv
theorem spHas_in {zs : List (Int × Int)} {n : Int} {q : Bool} (h : spE zs = 0) (hn : inB n = true) (hq : zs.any (fun x => x.1 == n) = q) (v : Value) (w : World) (hv : PSl w v zs) :
    Calls Tryd.prog 34 #[v, .int .i64 n] w fun e w' => e = .returned (.tuple #[.bool q, .nilIface]) ∧ Below w.heap.size w w' := by
  have C := hide (spCheck0 h v w hv)
  have S : Hid (∀ W, Below w.heap.size w W → Calls Tryd.prog 52 #[v, .int .i64 n] W fun e w' => e = .returned (.bool q) ∧ Below W.heap.size W w') := by
    intro W hW
    have := spIs n v zs W (hv.below hW)
    rwa [hq] at this
  have T := hide (fun W => tagIn_eq hn W)
  clear h hn hq hv
  go_enter Tryd.func34, Tryd.ntmps34
  go_wp2_with fail
  refine C.out.mono ?_
  rintro e w1 ⟨rfl, hb1⟩
  go_wp2_with fail
  refine (T.out _).mono ?_
  rintro e w500 ⟨rfl, rfl⟩
  go_wp2_with fail
  refine (S.out _ hb1).mono ?_
  rintro e w2 ⟨rfl, hb2⟩
  go_wp2
  go_ret2
  exact ⟨rfl, hb1.trans (hb2.mono hb1.size)⟩
theorem spHas_out {zs : List (Int × Int)} {n : Int} (h : spE zs = 0) (hn : inB n = false) (v : Value) (w : World) (hv : PSl w v zs) :
    Calls Tryd.prog 34 #[v, .int .i64 n] w fun e w' => e = .returned (.tuple #[.bool false, .iface 75 (.int .i64 1)]) ∧ Below w.heap.size w w' := by
  have C := hide (spCheck0 h v w hv)
  have T := hide (fun W => tagIn_eq hn W)
  clear h hn hv
  go_enter Tryd.func34, Tryd.ntmps34
  go_wp2_with fail
  refine C.out.mono ?_
  rintro e w1 ⟨rfl, hb1⟩
  go_wp2_with fail
  refine (T.out _).mono ?_
  rintro e w500 ⟨rfl, rfl⟩
  go_wp2
  go_ret2
  exact ⟨rfl, hb1⟩
theorem spDrop_bad {zs : List (Int × Int)} {now : Int} (h : spE zs = 0) (hn : tmB now = false) (v : Value) (w : World) (hv : PSl w v zs) :
    Calls Tryd.prog 37 #[v, .int .i64 now] w fun e w' => e = .returned (.tuple #[.slice none 0 0, .iface 75 (.int .i64 1)]) ∧ Below w.heap.size w w' := by
  have C := hide (spCheck0 h v w hv)
  have T := hide (fun W => tokenTime_eq hn W)
  clear h hn hv
  go_enter Tryd.func37, Tryd.ntmps37
  go_wp2_with fail
  refine C.out.mono ?_
  rintro e w1 ⟨rfl, hb1⟩
  go_wp2_with fail
  refine (T.out _).mono ?_
  rintro e w500 ⟨rfl, rfl⟩
  go_wp2
  go_ret2
  exact ⟨rfl, hb1⟩
theorem spDrop_ok {zs : List (Int × Int)} {now : Int} (h : spE zs = 0) (hn : tmB now = true) (v : Value) (w : World) (hv : PSl w v zs) :
    Calls Tryd.prog 37 #[v, .int .i64 now] w fun e w' => ∃ v', e = .returned (.tuple #[v', .nilIface]) ∧ PSl w' v' (spDrop zs now) ∧ Below w.heap.size w w' := by
  have C := hide (spCheck0 h v w hv)
  have T := hide (fun W => tokenTime_eq hn W)
  have L := hide (fun W (hW : Below w.heap.size w W) => spLeft now v zs W (hv.below hW))
  have hl : (spDrop zs now).length ≤ 1000 := Nat.le_trans (spDrop_le zs now) hv.1
  generalize spDrop zs now = ds at L hl ⊢
  clear h hn hv
  go_enter Tryd.func37, Tryd.ntmps37
  go_wp2_with fail
  refine C.out.mono ?_
  rintro e w1 ⟨rfl, hb1⟩
  go_wp2_with fail
  refine (T.out _).mono ?_
  rintro e w500 ⟨rfl, rfl⟩
  go_wp2_with fail
  refine (L.out _ hb1).mono ?_
  rintro e w2 ⟨v', rfl, hown, hb2⟩
  have HP := hide (own_psl hown hl)
  clear hown
  go_wp2
  go_ret2
  exact ⟨v', rfl, HP.out, hb1.trans (hb2.mono hb1.size)⟩
end Go.Proofs.YtfehnfbmlomccaaDoor
