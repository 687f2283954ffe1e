/- RunComes: the law's walk. From a list of laid variables to what each holds: over any program. From the listed variable errors.errorType to its cell; a world that meets the condition. From the listed variables of run (ten: tables, the handle of errors, two errors of strconv, the words, an error) to what they hold; a world that meets the condition. -/
import Derived.Test.YtlnghfmcofmkjaaGreatDoorRunComesProofM47
import Derived.Lib.LaidTab
import Derived.LaidHandle
import Derived.Test.YtlnghfmcofmkjaaGreatDoorRows
import Derived.Test.YtlnghfmcofmkjaaGreatDoorErr
import Derived.ProofKit
import Derived.ChangeSame
import Derived.ChangeVars
import Derived.JoinedOf
import Derived.RowKit
import Derived.RowKitTokens
import Derived.LaidLaws
import Derived.Stop.Joined
import Derived.Test.YtlnghfmcofmkjaaGreatDoorRunComesProofM40
import Derived.Test.YtlnghfmcofmkjaaGreatDoorRunComesProofM43
import Derived.LaidMore
import Derived.OpenShut
import Derived.Shelf.Vars
import GoSem.PinnedTables
namespace Go.Proofs.YtlnghfmcofmkjaaGreatDoor
open Go.RowKit

/-- a row of strings of the call's own: its form and cells -/
theorem own_strs {w : World} {base n : Nat} {v : Value} {ps : List ByteArray} (h : w.ownsRow base 9 1 v ps.length (ps.map Value.string)) (hn : ps.length = n) (h0 : 0 < n) : ∃ g c, v = .slice (some ⟨g, 0, none⟩) n c ∧ ∀ j p, ps[j]? = some p → w.cell? ⟨g, j, none⟩ = some (.string p) := by
  obtain ⟨g, cap, hv, _⟩ := own_form h (by omega)
  refine ⟨g, cap, by rw [hv, hn], fun j p hj => ?_⟩
  rw [hv] at h
  have hl := (List.getElem?_eq_some_iff.1 hj).1
  rw [h.cellAt j (by omega), List.getElem?_map, hj]
  rfl
set_option maxRecDepth 100000 in
set_option maxHeartbeats 4000000 in
theorem walkRunComesOut (w : World) (a now later : Int) (h : a < 0 ∨ (0 ≤ a ∧ 900000 < a) ∨ (0 ≤ a ∧ a ≤ 900000 ∧ now < 0) ∨ (0 ≤ a ∧ a ≤ 900000 ∧ 0 ≤ now ∧ 90000 < now) ∨ (0 ≤ a ∧ a ≤ 900000 ∧ 0 ≤ now ∧ now ≤ 90000 ∧ later < 0) ∨ (0 ≤ a ∧ a ≤ 900000 ∧ 0 ≤ now ∧ now ≤ 90000 ∧ 0 ≤ later ∧ 50 < later)) (hE : EnvR w.heap.size w) :
    Calls Tryz.prog 5 #[.int .i64 a, .int .i64 now, .int .i64 later] w fun e w' => e = .returned (.bool true) ∧ Below w.heap.size w w' := by
  have RF := hide (runRun rangeB (by decide) w.heap.size w hE (Nat.le_refl _))
  rw [range_runB] at RF
  unfold rangeB at RF
  clear hE
  rcases h with h | ⟨h1, h2⟩ | ⟨h1, h2, h3⟩ | ⟨h1, h2, h3, h4⟩ | ⟨h1, h2, h3, h4, h5⟩ | ⟨h1, h2, h3, h4, h5, h6⟩
  all_goals
    go_enter Tryz.func5, Tryz.ntmps5
    go_wp2_with fail
    refine RF.out.mono ?_
    rintro e w1 ⟨rfl, hb1⟩
    have HB1 := hide hb1
    clear hb1
    go_wp2
    go_ret
    exact ⟨rfl, HB1.out⟩
set_option maxRecDepth 100000 in
set_option maxHeartbeats 8000000 in
theorem walkRunComesIn (w : World) (a now later : Int) (ha : 0 ≤ a ∧ a ≤ 900000) (hn : 0 ≤ now ∧ now ≤ 90000) (hl : 0 ≤ later ∧ later ≤ 50) (hE : EnvR w.heap.size w) :
    Calls Tryz.prog 5 #[.int .i64 a, .int .i64 now, .int .i64 later] w fun e w' => e = .returned (.bool true) ∧ Below w.heap.size w w' := by
  have R1 := hide (fun W (hW : Below w.heap.size w W) (s : ByteArray) (hs : s.size ≤ 9223372036854775807) => runRun s hs w.heap.size W (hE.below hW (Nat.le_refl _)) hW.size)
  have D1 := hide (fun W => refDigits (n := a) (by omega) (by omega) W)
  have D2 := hide (fun W => refDigits (n := now) (by omega) (by omega) W)
  have D3 := hide (fun W => refDigits (n := now + later) (by omega) (by omega) W)
  have na : numOk a := ⟨by omega, by omega⟩
  have nn : numOk now := ⟨by omega, by omega⟩
  have nl : numOk (now + later) := ⟨by omega, by omega⟩
  have sA := numB_ok na
  have sB := numB_ok nn
  have sC := numB_ok nl
  have HP := plainC ha hn hl
  generalize numB a = A at D1 sA HP
  generalize numB now = B at D2 sB HP
  generalize numB (now + later) = C at D3 sC HP
  obtain ⟨ha0, ha1⟩ := ha
  obtain ⟨hn0, hn1⟩ := hn
  obtain ⟨hl0, hl1⟩ := hl
  clear na nn nl hE
  go_enter Tryz.func5, Tryz.ntmps5
  go_wp2_with fail
  refine (D1.out _).mono ?_
  rintro e w1 ⟨rfl, rfl⟩
  go_wp2_with fail
  refine (D2.out _).mono ?_
  rintro e w1 ⟨rfl, rfl⟩
  go_wp2_with fail
  refine (D3.out _).mono ?_
  rintro e w1 ⟨rfl, rfl⟩
  go_wp2_with fail
  go_loop [11, 12] (fun t i => ∃ k : Nat, i = .int .i64 (k : Int) ∧ k ≤ 4 ∧ t = .string (repB B k)) (fun _ i => 10 - (intOf i).toNat)
  case atStart => exact ⟨0, rfl, by omega, rfl⟩
  case round =>
    obtain ⟨k, rfl, hk, rfl⟩ := hrel
    have hrs := repB_size B sB.2 k
    have HR := hide (show repB B (k + 1) = ((repB B k ++ ⟨#[104, 101, 108, 108, 111, 32, 49, 32]⟩) ++ B) ++ ⟨#[10]⟩ from rfl)
    by_cases hk4 : k < 4
    · generalize repB B k = rk at hrs HR
      go_wp2
      go_round
      case rel => exact ⟨k + 1, by go_num, by omega, by rw [HR.out]⟩
      case measure => simp [intOf]; omega
    · obtain rfl : k = 4 := by omega
      have h5 := t5B_size sA.2 sB.2
      have r5 := runB_size0 (t5B A B)
      have RT := hide (fun W (hW : Below w.heap.size w W) => R1.out W hW (t5B A B) (by omega))
      obtain ⟨P1, P2, P3, P4, P5, P6, P7⟩ := HP
      have hE : t5B A B = ((((repB B 4 ++ ⟨#[104, 101, 108, 108, 111, 32]⟩) ++ A) ++ ⟨#[32]⟩) ++ B) ++ ⟨#[10]⟩ := rfl
      generalize t5B A B = T at h5 r5 RT P1 P3 hE
      generalize hg : repB B 4 = rk at hrs hE
      have hE' := hE.symm
      generalize hr1 : runB T = r1 at r5 RT P1
      have CU := hide (fun W => refCut 10 r1 r5 W)
      have HP1 := hide P1
      have HP2 := hide P2
      have HP3 := hide P3
      have HP4 := hide P4
      have HP5 := hide P5
      have HP6 := hide P6
      have HP7 := hide P7
      clear HR hg hE P1 P2 P3 P4 P5 P6 P7 hr1
      go_wp2_with fail
      refine (RT.out _ (Below.refl _ _)).mono ?_
      rintro e w2 ⟨rfl, hb2⟩
      have HB2 := hide hb2
      clear hb2 hE' hrs
      go_wp2_with fail
      refine (CU.out _).mono ?_
      rintro e w3 ⟨v, ps, hps, rfl, hown, hb3⟩
      have HB3 := hide (HB2.out.trans (hb3.mono HB2.out.size))
      rw [HP1.out] at hps
      obtain ⟨p0, p1, p2, p3, p4, p5, hps6, hp4⟩ := map_six hps
      obtain ⟨g, c, rfl, hcs⟩ := own_strs hown (n := 6) (by rw [hps6]; rfl) (by omega)
      have c4 := hcs 4 p4 (by rw [hps6]; rfl)
      obtain ⟨q1, q2, q3, q4⟩ := rt_parts HP6.out HP7.out hp4
      have hrv : (p4.extract 6 p4.size).size ≤ 28 := by simp; omega
      generalize hq : p4.extract 6 p4.size = rv at q4 hrv
      obtain ⟨T6, hT6⟩ : ∃ T6, T6 = t6B T A rv C := ⟨_, rfl⟩
      have s6 := t6B_size h5 sA.2 hrv sC.2
      have l6 := t6B_list HP3.out HP4.out q4 HP5.out
      rw [← hT6] at s6 l6
      have K1 := HP2.out T6 (by omega) l6
      have r6 := runB_size0 T6
      have RT2 := hide (fun W (hW : Below w.heap.size w W) => R1.out W hW T6 (by omega))
      generalize hr2 : runB T6 = r2 at r6 RT2 K1
      have CU2 := hide (fun W => refCut 10 r2 r6 W)
      have HK1 := hide K1
      have hE6 : ((((((T ++ ⟨#[97, 103, 97, 105, 110, 32]⟩) ++ A) ++ ⟨#[32]⟩) ++ rv) ++ ⟨#[32]⟩) ++ C) ++ ⟨#[10]⟩ = T6 := hT6.symm
      clear hps hown hb3 hps6 hcs hp4 q4 hT6 l6 K1 hr2 R1 HP1 HP2 HP3 HP4 HP5 HP6 HP7
      go_wp2_with fail
      refine (RT2.out _ HB3.out).mono ?_
      rintro e w4 ⟨rfl, hb4⟩
      have HB4 := hide (HB3.out.trans (hb4.mono HB3.out.size))
      clear hb4 hE6 c4 q1 q2 q3 hq
      go_wp2_with fail
      refine (CU2.out _).mono ?_
      rintro e w5 ⟨v, ps, hps, rfl, hown, hb5⟩
      have HB5 := hide (HB4.out.trans (hb5.mono HB4.out.size))
      rw [HK1.out] at hps
      obtain ⟨p0, p1, p2, p3, p4, p5, p6, hps7, hp5⟩ := map_seven hps
      obtain ⟨g2, c2, rfl, hcs⟩ := own_strs hown (n := 7) (by rw [hps7]; rfl) (by omega)
      have c5 := hcs 5 p5 (by rw [hps7]; rfl)
      obtain ⟨q1, q2, q3⟩ := wl_parts (by decide) hp5
      clear hps hown hb5 hps7 hcs hp5
      go_wp2
      go_ret
      exact ⟨rfl, HB5.out⟩
theorem walkRunComes (w : World) (a : Int) (_wa : (Lit.int .i64 a).wf = true) (now : Int) (_wn : (Lit.int .i64 now).wf = true) (later : Int) (_wl : (Lit.int .i64 later).wf = true) (hE : EnvR w.heap.size w) :
    Calls Tryz.prog 5 #[.int .i64 a, .int .i64 now, .int .i64 later] w fun e w' => e = .returned (.bool true) ∧ Below w.heap.size w w' := by
  by_cases h : (0 ≤ a ∧ a ≤ 900000) ∧ (0 ≤ now ∧ now ≤ 90000) ∧ (0 ≤ later ∧ later ≤ 50)
  · exact walkRunComesIn w a now later h.1 h.2.1 h.2.2 hE
  · exact walkRunComesOut w a now later (by omega) hE
end Go.Proofs.YtlnghfmcofmkjaaGreatDoor

namespace Go.Proofs.YtlnghfmcofmkjaaGreatDoor

theorem laidVars_mem {P : Program} {w : World} : ∀ {l : List (String × DataW Unit)} {ps : List MemPlace}, DataW.LaidVars P w l ps → ∀ x ∈ l,
    ∃ g t cs fuel p, P.globalNamed x.1 = some g ∧ (P.globals[g]?).map (·.type) = some t ∧ w.var? P x.1 = some cs ∧ DataW.trod (fun _ => ()) P w 0 (fun _ => true) false fuel t cs.toList = some (x.2, p)
  | [], _, _, x, hx => by cases hx
  | (n, d) :: r, ps, h, x, hx => by
    obtain ⟨g, t, cs, fuel, p, q, h1, h2, h3, h4, h5, _⟩ := h
    rcases List.mem_cons.1 hx with rfl | hx
    · exact ⟨g, t, cs, fuel, p, h1, h2, h3, h4⟩
    · exact laidVars_mem h5 x hx
theorem laidH_data {P : Program} {l : List (String × DataW Unit)} {w : World} (h : laidMetH P l w) {n : String} {d : DataW Unit} (hx : (n, d) ∈ l) (hn : d.handleName? = none) :
    ∃ g t cs fuel p, P.globalNamed n = some g ∧ (P.globals[g]?).map (·.type) = some t ∧ w.var? P n = some cs ∧ DataW.trod (fun _ => ()) P w 0 (fun _ => true) false fuel t cs.toList = some (d, p) := by
  have hm : (n, d) ∈ l.filter fun x => x.2.handleName?.isNone := List.mem_filter.2 ⟨hx, by simp [hn]⟩
  unfold laidMetH at h
  generalize (l.filter fun x => x.2.handleName?.isSome) = fl at h
  cases fl with
  | nil => obtain ⟨ps, h1, _⟩ := h; exact laidVars_mem h1 _ hx
  | cons b bs => obtain ⟨⟨ps, h1, _⟩, _⟩ := h; exact laidVars_mem h1 _ hm
theorem laidH_tab {P : Program} {l : List (String × DataW Unit)} {W : World} {name : String} {k : IntKind} {zs : List Int} {g : Nat} {t e : TypeId} {n : Nat} (h : laidMetH P l W) (hx : (name, Lib.tabData k zs) ∈ l)
    (hg : P.globalNamed name = some g) (hty : (P.globals[g]?).map (·.type) = some t) (ht : P.underlying t = some (.array n e)) (he : P.underlying e = some (.int k)) (hce : P.cellsOf e = 1) (hct : P.cellsOf t = n) : Lib.TabIs P W name k zs := by
  obtain ⟨g', t', cs, fuel, p, hg', ht', hvar, hd⟩ := laidH_data h hx (by simp [Lib.tabData, DataW.handleName?])
  obtain rfl := Option.some.inj (hg.symm.trans hg')
  obtain rfl := Option.some.inj (hty.symm.trans ht')
  unfold Lib.TabIs
  rw [hvar, ← Lib.cells_of_tab ht he hce hct hd]
theorem laidH_handle {P : Program} {l : List (String × DataW Unit)} {w : World} (h : laidMetH P l w) {x : String × DataW Unit} (hx : x ∈ l) (hs : x.2.handleName?.isSome = true) (hf : x.2.funcsIn? = none) :
    ∃ name u ty, x.2.handleName? = some name ∧ (P.cutTypes.find? (·.1 == "internal/reflectlite.rtype")).map (·.2) = some u ∧ ty < P.types.size ∧ P.rowNamed ty name = true ∧ w.var? P x.1 = some #[.iface u (.agg #[typeHandle P ty])] := by
  have hm : x ∈ l.filter fun x => x.2.handleName?.isSome := List.mem_filter.2 ⟨hx, hs⟩
  unfold laidMetH at h
  generalize (l.filter fun x => x.2.handleName?.isSome) = fl at h hm
  cases fl with
  | nil => cases hm
  | cons b bs =>
    have := h.2 _ hm
    rw [hf] at this
    exact this
end Go.Proofs.YtlnghfmcofmkjaaGreatDoor

namespace Go.Proofs.YtlnghfmcofmkjaaGreatDoor
open Go.ChangeShapes Go.WideShapes Go.RowKit

theorem Tryz.et : Tryz.prog.globalNamed "errors.errorType" = some 2 := by kernel_rfl
theorem Tryz.rt : (Tryz.prog.cutTypes.find? (·.1 == "internal/reflectlite.rtype")).map (·.2) = some 153 := by kernel_rfl
theorem Tryz.oneRow : ((List.range Tryz.prog.types.size).filter fun t => Tryz.prog.rowNamed t [101, 114, 114, 111, 114]) = [33] := by kernel_rfl

theorem Tryz.handle_of_laid {W : World} (h : laidMetH Tryz.prog [("errors.errorType", Rows.laid_errors_errorType)] W) : ErrT W := by
  have h' : laidMet Tryz.prog [] W ∧ handlesMet Tryz.prog [("errors.errorType", Rows.laid_errors_errorType)] W := h
  obtain ⟨name, u, ty, e1, e2, e3, e4, e5⟩ := h'.2 _ (List.mem_singleton.2 rfl)
  have en : name = [101, 114, 114, 111, 114] := (Option.some.inj e1).symm
  subst en
  obtain rfl := Option.some.inj (Tryz.rt.symm.trans e2)
  have hm : ty ∈ (List.range Tryz.prog.types.size).filter fun t => Tryz.prog.rowNamed t [101, 114, 114, 111, 114] := List.mem_filter.2 ⟨List.mem_range.2 e3, e4⟩
  rw [Tryz.oneRow] at hm
  obtain rfl := List.mem_singleton.1 hm
  have hh : typeHandle Tryz.prog 33 = .pointer (some ⟨11, 33, none⟩) := by kernel_rfl
  rw [hh] at e5
  simpa [ErrT] using World.var?_cell Tryz.et e5 0

noncomputable def Tryz.laidWorld (os : Os) : World :=
  let w0 := World.holding Tryz.prog os ⟨#[], #[], []⟩
  { w0 with heap := w0.heap.modify 2 fun
      | .cells _ t frozen => .cells #[.iface 153 (.agg #[.pointer (some ⟨11, 33, none⟩)])] t frozen
      | o => o }
end Go.Proofs.YtlnghfmcofmkjaaGreatDoor

namespace Go.Proofs.YtlnghfmcofmkjaaGreatDoor
open Go.ChangeShapes Go.WideShapes Go.ChangeAt Go.WideMaps Go.WideElems Go.RowKit

theorem laidVars_mem2 {P : Program} {w : World} : ∀ {l : List (String × DataW Unit)} {ps : List MemPlace}, DataW.LaidVars P w l ps → ∀ x ∈ l,
    ∃ g t cs fuel p, P.globalNamed x.1 = some g ∧ (P.globals[g]?).map (·.type) = some t ∧ w.var? P x.1 = some cs ∧ DataW.trod (fun _ => ()) P w 0 (fun _ => true) false fuel t cs.toList = some (x.2, p) ∧ ∀ i, i < cs.size → MemPlace.cell g i ∈ ps
  | [], _, _, x, hx => by cases hx
  | (n, d) :: r, ps, h, x, hx => by
    obtain ⟨g, t, cs, fuel, p, q, h1, h2, h3, h4, h5, h6⟩ := h
    rcases List.mem_cons.1 hx with rfl | hx
    · refine ⟨g, t, cs, fuel, p, h1, h2, h3, h4, fun i hi => ?_⟩
      rw [h6]
      refine List.mem_append_left _ (List.mem_append_left _ ?_)
      simp only [MemPlace.row, List.mem_map, List.mem_range]
      exact ⟨i, hi, by simp⟩
    · obtain ⟨g', t', cs', fuel', p', a1, a2, a3, a4, a5⟩ := laidVars_mem2 h5 x hx
      exact ⟨g', t', cs', fuel', p', a1, a2, a3, a4, fun i hi => by rw [h6]; exact List.mem_append_right _ (a5 i hi)⟩
theorem laidH_data2 {P : Program} {l : List (String × DataW Unit)} {w : World} (h : laidMetH P l w) {n : String} {d : DataW Unit} (hx : (n, d) ∈ l) (hn : d.handleName? = none) :
    ∃ g t cs fuel p, P.globalNamed n = some g ∧ (P.globals[g]?).map (·.type) = some t ∧ w.var? P n = some cs ∧ DataW.trod (fun _ => ()) P w 0 (fun _ => true) false fuel t cs.toList = some (d, p) ∧ ∀ i, i < cs.size → ∀ u v, w.cell? ⟨g, i, none⟩ = some (.iface u v) → Value.okWide P w .any 0 u v := by
  have hm : (n, d) ∈ l.filter fun x => x.2.handleName?.isNone := List.mem_filter.2 ⟨hx, by simp [hn]⟩
  have fin : ∀ l', laidMet P l' w → (n, d) ∈ l' → ∃ g t cs fuel p, P.globalNamed n = some g ∧ (P.globals[g]?).map (·.type) = some t ∧ w.var? P n = some cs ∧ DataW.trod (fun _ => ()) P w 0 (fun _ => true) false fuel t cs.toList = some (d, p) ∧ ∀ i, i < cs.size → ∀ u v, w.cell? ⟨g, i, none⟩ = some (.iface u v) → Value.okWide P w .any 0 u v := by
    rintro l' ⟨ps, h1, _, h3⟩ hm'
    obtain ⟨g, t, cs, fuel, p, a1, a2, a3, a4, a5⟩ := laidVars_mem2 h1 _ hm'
    exact ⟨g, t, cs, fuel, p, a1, a2, a3, a4, fun i hi => (h3 g i (a5 i hi)).2⟩
  unfold laidMetH at h
  generalize (l.filter fun x => x.2.handleName?.isSome) = fl at h
  cases fl with
  | nil => exact fin l h hx
  | cons b bs => exact fin _ h.1 hm
/-- a listed variable of an interface type holds an interface value -/
theorem laidH_iface {P : Program} {l : List (String × DataW Unit)} {w : World} (h : laidMetH P l w) {n : String} {nm : String} {d : DataW Unit} (hx : (n, .iface nm d) ∈ l) (hn : (DataW.iface nm d).handleName? = none) {g : Nat} {t : TypeId} {ms : Array (String × TypeId)}
    (hg : P.globalNamed n = some g) (ht : (P.globals[g]?).map (·.type) = some t) (hi : P.underlying t = some (.interface ms)) : ∃ te pe, w.cell? ⟨g, 0, none⟩ = some (.iface te pe) := by
  obtain ⟨g', t', cs, fuel, p, hg', ht', hv, hd, _⟩ := laidH_data2 h hx hn
  obtain rfl := Option.some.inj (hg.symm.trans hg')
  obtain rfl := Option.some.inj (ht.symm.trans ht')
  obtain ⟨f1, u, v, hcs, _, _⟩ := iface_of_trod hi hd
  have := World.var?_cell hg hv 0
  rw [Array.eq_one_of_toList hcs] at this
  exact ⟨u, v, by simpa using this⟩
theorem Tryz.gUnread : Tryz.prog.globalNamed "tokenfold/run.unread" = some 1 := by kernel_rfl
theorem Tryz.gWants : Tryz.prog.globalNamed "tokenfold/run.wants" = some 0 := by kernel_rfl
theorem Tryz.gSyn : Tryz.prog.globalNamed "strconv.ErrSyntax" = some 6 := by kernel_rfl
theorem Tryz.gRan : Tryz.prog.globalNamed "strconv.ErrRange" = some 7 := by kernel_rfl
theorem Tryz.tUnread : (Tryz.prog.globals[1]?).map (·.type) = some 95 := by kernel_rfl
theorem Tryz.tWants : (Tryz.prog.globals[0]?).map (·.type) = some 120 := by kernel_rfl
theorem Tryz.tSyn : (Tryz.prog.globals[6]?).map (·.type) = some 33 := by kernel_rfl
theorem Tryz.tRan : (Tryz.prog.globals[7]?).map (·.type) = some 33 := by kernel_rfl
theorem powR_data : (Rows.laid_internal_strconv_uint64pow10 : DataW Unit) = Lib.tabData .u64 Lib.pow10Tab := by kernel_rfl
theorem Tryz.strLaw : KeyLaw Tryz.prog 9 := string_law Tryz.underlying9
theorem type_one {P : Program} {nm : String} {tp : TypeId} (hrows : ((List.range P.types.size).all fun u => P.typeName? 3 u != some nm || u == tp) = true) (hstar : nm.toList.head? ≠ some (Char.ofNat 42)) (u : TypeId) (hu : P.typeName? 3 u = some nm) : u = tp := by
  by_cases hlt : u < P.types.size
  · have h1 := List.all_eq_true.1 hrows u (List.mem_range.2 hlt)
    rw [hu] at h1
    simpa using h1
  · exfalso
    unfold Program.typeName? at hu
    cases hi : P.info? u with
    | none => simp [hi] at hu
    | some i =>
      have hb := Tables.info?_beyond hlt hi
      simp only [hi] at hu
      cases hd : i.desc <;> simp only [hd, TypeDesc.tableOnly] at hu hb <;> try cases hb
      all_goals try cases hu
      simp only [Option.map_eq_some_iff] at hu
      obtain ⟨n', _, hs⟩ := hu
      apply hstar
      rw [← hs]
      simp
theorem Tryz.errnoRow (u : TypeId) (h : Tryz.prog.typeName? 3 u = some "tokenfold/api.Errno") : u = 82 := type_one (by kernel_rfl) (by decide) u h
theorem one_int {P : Program} {w : World} {t : TypeId} {k : IntKind} (ht : P.underlying t = some (.int k)) {v : Value} {n : Int} (hv : v.cells.toList = [.int k n]) (ho : Value.okWide P w .any 0 t v) : v = .int k n := by
  unfold Value.okWide at ho
  simp only [ht] at ho
  unfold Cell.okWide at ho
  cases v <;> simp [Value.cells, Cell.ok, ht] at ho hv
  obtain ⟨rfl, rfl⟩ := hv
  rfl
theorem wants_find (l : List UInt8) : (Rows.laid_tokenfold_run_wants : DataW Unit).atKey (.string l) .nil = (if l = [97, 103, 97, 105, 110] then .lit (.int .i64 6) else if l = [99, 114, 97, 115, 104] then .lit (.int .i64 0) else if l = [104, 101, 108, 108, 111] then .lit (.int .i64 2) else if l = [112, 117, 108, 108] then .lit (.int .i64 0) else if l = [116, 105, 99, 107, 101, 116] then .lit (.int .i64 1) else if l = [116, 117, 114, 110] then .lit (.int .i64 0) else if l = [119, 97, 105, 116, 105, 110, 103] then .lit (.int .i64 0) else .nil) := by
  unfold Rows.laid_tokenfold_run_wants DataW.atKey
  simp only [List.find?, Lit.sameKey]
  have hb : ∀ (a : List UInt8), (a == l) = decide (l = a) := fun a => by
    by_cases h : l = a
    · subst h; simp
    · rw [decide_eq_false h]
      exact beq_eq_false_iff_ne.2 (fun e => h e.symm)
  rw [hb, hb, hb, hb, hb, hb, hb]
  by_cases h1 : l = [97, 103, 97, 105, 110]
  · subst h1; rfl
  rw [decide_eq_false h1, if_neg h1]
  by_cases h2 : l = [99, 114, 97, 115, 104]
  · subst h2; rfl
  rw [decide_eq_false h2, if_neg h2]
  by_cases h3 : l = [104, 101, 108, 108, 111]
  · subst h3; rfl
  rw [decide_eq_false h3, if_neg h3]
  by_cases h4 : l = [112, 117, 108, 108]
  · subst h4; rfl
  rw [decide_eq_false h4, if_neg h4]
  by_cases h5 : l = [116, 105, 99, 107, 101, 116]
  · subst h5; rfl
  rw [decide_eq_false h5, if_neg h5]
  by_cases h6 : l = [116, 117, 114, 110]
  · subst h6; rfl
  rw [decide_eq_false h6, if_neg h6]
  by_cases h7 : l = [119, 97, 105, 116, 105, 110, 103]
  · subst h7; rfl
  rw [decide_eq_false h7, if_neg h7]
/-- the map's datum answers as wantsL does -/
theorem wants_at (l : List UInt8) : (Rows.laid_tokenfold_run_wants : DataW Unit).atKey (.string l) .nil = (match wantsL l with | some n => .lit (.int .i64 (n : Int)) | none => .nil) := by
  rw [wants_find]
  cases hw : wantsL l with
  | some n =>
    rcases wants_len hw with ⟨rfl, rfl⟩ | ⟨rfl, rfl⟩ | ⟨rfl, rfl⟩ | ⟨rfl, rfl⟩ | ⟨rfl, rfl⟩ | ⟨rfl, rfl⟩ | ⟨rfl, rfl⟩ <;> rfl
  | none =>
    unfold wantsL at hw
    simp only
    repeat' split
    all_goals (first | rfl | (subst l; simp at hw))
set_option maxRecDepth 100000 in
theorem Tryz.wants_of_laid {l : List (String × DataW Unit)} {W : World} (h : laidMetH Tryz.prog l W) (hx : ("tokenfold/run.wants", Rows.laid_tokenfold_run_wants) ∈ l) : ∃ bm es clock, W.cell? ⟨0, 0, none⟩ = some (.map (some bm)) ∧ bm < W.heap.size ∧ W.heap[bm]? = some (.map es clock) ∧ WantsM es clock := by
  obtain ⟨g', t', cs, fuel, p, hg', ht', hv, hd, _⟩ := laidH_data2 h hx rfl
  obtain rfl := Option.some.inj (Tryz.gWants.symm.trans hg')
  obtain rfl := Option.some.inj (Tryz.tWants.symm.trans ht')
  rcases open_map Tryz.underlying120 hd with ⟨_, hz⟩ | ⟨bm, es, clock, m, rfl, hcs, hb, _, F, hz⟩
  · simp [Rows.laid_tokenfold_run_wants] at hz
  simp only [Prod.mk.injEq] at hz
  have hcell : W.cell? ⟨0, 0, none⟩ = some (.map (some bm)) := by
    have := World.var?_cell Tryz.gWants hv 0
    rw [Array.eq_one_of_toList hcs] at this
    simpa using this
  refine ⟨bm, es, clock, hcell, lt_of_block hb, hb, fun W' b hb' s hs => ?_⟩
  have zero : (zeroValue 3).run Tryz.prog W' = .ok (.int .i64 0) W' := by kernel_rfl
  have hwa := wants_at s.data.toList
  rcases fit_lookup_ok (w := W') Tryz.strLaw Tryz.underlying120 zero hb' F (keyOf_string_mk (s := s) Tryz.underlying9 (by unfold maxLen; omega)) with ⟨hrun, hat⟩ | ⟨v, y, hrun, hRv, hat, _⟩
  · have h1 := hat (.lit (.bool true))
    have h2 := hat .nil
    rw [← hz.1] at h1 h2
    rw [hrun]
    cases hw : wantsL s.data.toList with
    | some n =>
      rw [hw] at hwa
      simp only at hwa
      rw [h2] at hwa
      cases hwa
    | none => unfold wantN wantB; rw [hw]; rfl
  · obtain ⟨r, rfl, rfl, _⟩ := elemAt_int Tryz.underlying3 hRv
    have h2 := hat .nil
    rw [← hz.1, hwa] at h2
    rw [hrun]
    cases hw : wantsL s.data.toList with
    | some n =>
      rw [hw] at h2
      simp only [DataW.lit.injEq, Lit.int.injEq, true_and] at h2
      unfold wantN wantB
      rw [hw, ← h2]
      rfl
    | none => rw [hw] at h2; cases h2
set_option maxRecDepth 100000 in
theorem Tryz.unread_of_laid {l : List (String × DataW Unit)} {W : World} (h : laidMetH Tryz.prog l W) (hx : ("tokenfold/run.unread", Rows.laid_tokenfold_run_unread) ∈ l) : W.cell? ⟨1, 0, none⟩ = some (.iface 82 (.int .i64 2)) := by
  obtain ⟨g', t', cs, fuel, p, hg', ht', hv, hd, hok⟩ := laidH_data2 h hx rfl
  obtain rfl := Option.some.inj (Tryz.gUnread.symm.trans hg')
  obtain rfl := Option.some.inj (Tryz.tUnread.symm.trans ht')
  obtain ⟨⟨y1, y2⟩, n, hz, hl, hy⟩ := trod_struct1 Tryz.underlying95 hd
  simp only [Rows.laid_tokenfold_run_unread, Prod.mk.injEq, DataW.agg.injEq, List.cons.injEq, and_true] at hz
  obtain ⟨rfl, rfl⟩ := hz
  have c1 : Tryz.prog.cellsOf 95 = 1 := by kernel_rfl
  have c2 : Tryz.prog.cellsOf 33 = 1 := by kernel_rfl
  rw [c1] at hl
  obtain ⟨f1, u, v, hcs, hnm, hin⟩ := iface_of_trod Tryz.errIface hy
  obtain rfl := Tryz.errnoRow u hnm
  have hcs2 : cs.toList = [.iface 82 v] := by
    match hc : cs.toList, hl with
    | [c], _ =>
      rw [hc] at hcs
      simp only [c2, List.drop_zero, List.take_succ_cons, List.take_zero] at hcs
      exact hcs
  obtain ⟨k, hv1, hv2, _⟩ := DataW.trod_int Tryz.underlying82 hin
  simp only [Prod.mk.injEq, DataW.lit.injEq, Lit.int.injEq, true_and] at hv2
  have hk : k = 2 := hv2.1.symm
  subst hk
  have hcell : W.cell? ⟨1, 0, none⟩ = some (.iface 82 v) := by
    have := World.var?_cell Tryz.gUnread hv 0
    rw [Array.eq_one_of_toList hcs2] at this
    simpa using this
  have hsz : 0 < cs.size := by
    have : cs.toList.length = cs.size := by simp
    omega
  rw [hcell, one_int Tryz.underlying82 hv1 (hok 0 hsz _ _ hcell)]
set_option maxRecDepth 100000 in
theorem Tryz.env_of_laid {l : List (String × DataW Unit)} {W : World} (h : laidMetH Tryz.prog l W) (hsh : W.ShapedOpen Tryz.prog) (h1 : ("errors.errorType", Rows.laid_errors_errorType) ∈ l) (h2 : ("internal/strconv.uint64pow10", Rows.laid_internal_strconv_uint64pow10) ∈ l)
    (h3 : ("strconv.ErrRange", Rows.laid_strconv_ErrRange) ∈ l) (h4 : ("strconv.ErrSyntax", Rows.laid_strconv_ErrSyntax) ∈ l) (h5 : ("tokenfold/run.unread", Rows.laid_tokenfold_run_unread) ∈ l) (h6 : ("tokenfold/run.wants", Rows.laid_tokenfold_run_wants) ∈ l) : EnvR W.heap.size W := by
  have et : ErrT W := by
    obtain ⟨name, u, ty, e1, e2, e3, e4, e5⟩ := laidH_handle h h1 rfl rfl
    have en : name = [101, 114, 114, 111, 114] := (Option.some.inj e1).symm
    subst en
    obtain rfl := Option.some.inj (Tryz.rt.symm.trans e2)
    have hm : ty ∈ (List.range Tryz.prog.types.size).filter fun t => Tryz.prog.rowNamed t [101, 114, 114, 111, 114] := List.mem_filter.2 ⟨List.mem_range.2 e3, e4⟩
    rw [Tryz.oneRow] at hm
    obtain rfl := List.mem_singleton.1 hm
    have hh : typeHandle Tryz.prog 33 = .pointer (some ⟨11, 33, none⟩) := by kernel_rfl
    rw [hh] at e5
    simpa [ErrT] using World.var?_cell Tryz.et e5 0
  have mx := cell_of_shapedOpen_int (g := 3) (zero := #[.int .i64 0]) (t := 3) hsh (of_decide_eq_true (by kernel_rfl)) (by kernel_rfl) rfl (by kernel_rfl) (by kernel_rfl) Tryz.underlying3
  obtain ⟨bm, es, clock, g1, g2, g3, g4⟩ := Tryz.wants_of_laid h h6
  have pw : PowT W := laidH_tab h (by rw [← powR_data]; exact h2) Tryz.powG (t := 245) (e := 221) (n := 20) (by kernel_rfl) (by kernel_rfl) (by kernel_rfl) (by kernel_rfl) (by kernel_rfl)
  have hpl : 8 + 1 ≤ W.heap.size := by
    have h := pw
    unfold PowT Lib.TabIs World.var? at h
    rw [Tryz.powG] at h
    simp only [Option.bind_some] at h
    by_cases hl : 8 < W.heap.size
    · exact hl
    · rw [Array.getElem?_eq_none (by omega)] at h
      simp at h
  exact ⟨pw,
    ⟨laidH_iface h h4 rfl Tryz.gSyn Tryz.tSyn Tryz.errIface, laidH_iface h h3 rfl Tryz.gRan Tryz.tRan Tryz.errIface⟩, mx, et, Tryz.unread_of_laid h h5, ⟨bm, es, clock, g1, g2, g3, g4⟩, hpl⟩
/-- the cells of a table -/
def aggCells : DataW Unit → Array Value
  | .agg ds => (ds.map fun | .lit (.int k n) => Value.int k n | _ => undef).toArray
  | _ => #[]
noncomputable def Tryz.laidWorldR (os : Os) : World :=
  let w0 := World.doorLaid Tryz.prog 400 os
  { w0 with heap := w0.heap.modify 4 fun
      | .cells _ t frozen => .cells (aggCells Go.Pinned.utf8First) t frozen
      | o => o }
end Go.Proofs.YtlnghfmcofmkjaaGreatDoor
