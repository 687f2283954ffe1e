/- RunAnswers: the law's walk. From a list of laid variables to what each holds: over any program. From the listed variable errors.errorType to its cell; a world that meets the condition. From the listed variables of run (ten: tables, the handle of errors, two errors of strconv, the words, an error) to what they hold; a world that meets the condition. -/
import Derived.Test.YtlnghfmcofmkjaaGreatDoorRefLine3
import Derived.Test.YtlnghfmcofmkjaaGreatDoorRunAnswersProofM47
import Derived.Lib.LaidTab
import Derived.LaidHandle
import Derived.Test.YtlnghfmcofmkjaaGreatDoorRows
import Derived.Test.YtlnghfmcofmkjaaGreatDoorRunAnswersProofM37
import Derived.ProofKit
import Derived.ChangeSame
import Derived.ChangeVars
import Derived.JoinedOf
import Derived.RowKit
import Derived.RowKitTokens
import Derived.LaidLaws
import Derived.Stop.Joined
import Derived.Test.YtlnghfmcofmkjaaGreatDoorRunAnswersProofM38
import Derived.Test.YtlnghfmcofmkjaaGreatDoorRunAnswersProofM41
import Derived.LaidMore
import Derived.OpenShut
import Derived.Shelf.Vars
import GoSem.PinnedTables
namespace Go.Proofs.YtlnghfmcofmkjaaGreatDoor
open Go.RowKit

def owedB (ls : List (List UInt8)) (j : Nat) : ByteArray := ⟨(linesR firstV (ls.take j)).toArray⟩
theorem owedB_size {ls : List (List UInt8)} (hl : ls.length ≤ 3000) (j : Nat) : (owedB ls j).size ≤ 183000 := by
  have h1 : (ls.take j).length ≤ 3000 := by rw [List.length_take]; omega
  have h2 := linesR_le (ls.take j) firstV 0 RI.first (by omega)
  have e : (owedB ls j).size = (linesR firstV (ls.take j)).length := by unfold owedB; rw [← List.size_toArray]; rfl
  omega
theorem owedB_next {ls : List (List UInt8)} {j : Nat} (hj : j < ls.length) {s : ByteArray} (hs : s.data.toList = (lineR (linesV firstV (ls.take j)) (ls.getD j [])).1) : owedB ls (j + 1) = (owedB ls j ++ s) ++ ⟨#[10]⟩ := by
  apply ba_of_list
  have e : ls.take (j + 1) = ls.take j ++ [ls.getD j []] := by
    rw [List.take_succ_eq_append_getElem hj]
    simp [List.getD, List.getElem?_eq_getElem hj]
  unfold owedB
  rw [e, linesR_app]
  show linesR firstV (ls.take j) ++ ((lineR (linesV firstV (ls.take j)) (ls.getD j [])).1 ++ 10 :: []) = _
  rw [← hs, ByteArray.data_append, Array.toList_append, ByteArray.data_append, Array.toList_append, List.append_assoc]
theorem linesV_next {ls : List (List UInt8)} {j : Nat} (hj : j < ls.length) : linesV firstV (ls.take (j + 1)) = (lineR (linesV firstV (ls.take j)) (ls.getD j [])).2 := by
  have e : ls.take (j + 1) = ls.take j ++ [ls.getD j []] := by
    rw [List.take_succ_eq_append_getElem hj]
    simp [List.getD, List.getElem?_eq_getElem hj]
  rw [e, linesV_app]
  rfl
theorem refNew7 (w : World) : Calls Tryz.prog 8 #[.int .i64 7, .int .i64 50] w fun e w' => ∃ r, e = .returned (.pointer (some ⟨r, 0, none⟩)) ∧ (∃ G, RefAt w' r 50 firstV G ∧ ∀ x ∈ G, w.heap.size ≤ x) ∧ Below w.heap.size w w' := by
  refine (rsNew (seed := 7) (li := 50) (by decide) w).mono ?_
  rintro e w' ⟨b, rfl, hb, hv, hw⟩
  refine ⟨b, rfl, ⟨_, ⟨_, _, _, hv, rfl⟩, fun x hx => ?_⟩, hw⟩
  rcases mem_rvF.1 hx with rfl | h | h
  · exact hb
  · cases h
  · rcases h with h | h <;> cases h
/-- the rows that a text is cut into: the lines, and an empty end or none -/
theorem cut_lines {t : ByteArray} {ps : List ByteArray} (h : ps.map (·.data.toList) = cutL 10 t.data.toList) :
    (ps.length = (textL t.data.toList).length + 1 ∧ ps.getD (textL t.data.toList).length ByteArray.empty = ⟨#[]⟩ ∧ ∀ j, j < (textL t.data.toList).length → (ps.getD j ByteArray.empty).data.toList = (textL t.data.toList).getD j []) ∨
    (∃ n, ps.length = n + 1 ∧ (textL t.data.toList).length = n + 1 ∧ (ps.getD n ByteArray.empty).toList.isEmpty = false ∧ ∀ j, j < n + 1 → (ps.getD j ByteArray.empty).data.toList = (textL t.data.toList).getD j []) := by
  have hg : ∀ j, (ps.getD j ByteArray.empty).data.toList = (cutL 10 t.data.toList).getD j [] := by
    intro j
    rw [← h]
    simp only [List.getD, List.getElem?_map]
    cases ps[j]? <;> rfl
  have hlen : ps.length = (cutL 10 t.data.toList).length := by rw [← h]; simp
  rcases text_cut _ t.data.toList (Nat.le_refl _) with e | ⟨e, e2, e3⟩
  · refine .inl ⟨by rw [hlen, e]; simp, ba_of_list ?_, fun j hj => ?_⟩
    · rw [hg, e]; simp [List.getD]
    · rw [hg, e]; simp [List.getD, List.getElem?_append_left hj]
  · obtain ⟨n, hn⟩ : ∃ n, (textL t.data.toList).length = n + 1 := by
      cases hx : textL t.data.toList with
      | nil => exact absurd hx e3
      | cons y ys => exact ⟨ys.length, rfl⟩
    refine .inr ⟨n, by rw [hlen, e, hn], hn, ba_nonempty ?_, fun j _ => by rw [hg, e]⟩
    have h1 : (ps.getD n ByteArray.empty).data.toList ≠ [] := by
      rw [hg, e]
      intro h2
      apply e2
      rw [List.getLast?_eq_getElem?, hn, Nat.add_sub_cancel]
      rw [List.getElem?_eq_getElem (by omega)]
      simp only [List.getD, List.getElem?_eq_getElem (show n < (textL t.data.toList).length by omega), Option.getD_some] at h2
      rw [h2]
    rcases Nat.eq_zero_or_pos (ps.getD n ByteArray.empty).size with h2 | h2
    · exfalso
      apply h1
      apply List.length_eq_zero_iff.1
      simpa using h2
    · exact h2
set_option maxRecDepth 100000 in
set_option maxHeartbeats 8000000 in
theorem walkRunAnswers (w : World) (t : ByteArray) (hsz : t.size ≤ maxLen) (hE : EnvR w.heap.size w) :
    Calls Tryz.prog 3 #[.string t] w fun e w' => e = .returned (.bool true) ∧ Below w.heap.size w w' := by
  unfold maxLen at hsz
  have RT := hide (runRun t (by omega) w.heap.size w hE (Nat.le_refl _))
  clear hE
  by_cases h3 : 3000 < t.size
  · rw [long_runB h3] at RT
    go_enter Tryz.func3, Tryz.ntmps3
    go_wp2_with fail
    refine RT.out.mono ?_
    rintro e w1 ⟨rfl, hb1⟩
    have HB1 := hide hb1
    clear hb1
    go_wp2
    go_ret
    exact ⟨rfl, HB1.out⟩
  · have h3' : t.size ≤ 3000 := by omega
    have hle : (textL t.data.toList).length ≤ 3000 := by
      unfold textL
      rw [List.length_map]
      exact Nat.le_trans (linesL_le _) (by simpa using h3')
    have hrb : runB t = owedB (textL t.data.toList) (textL t.data.toList).length := by
      unfold runB runL owedB
      rw [if_neg (by simpa using h3'), List.take_of_length_le (Nat.le_refl _)]
    have CL := hide (fun (ps : List ByteArray) (h : ps.map (·.data.toList) = cutL 10 t.data.toList) => cut_lines h)
    have CU := hide (fun W => refCut 10 t (by omega) W)
    have H3 := hide h3'
    generalize textL t.data.toList = ls at hle hrb CL
    have HRB := hide hrb
    have HLE := hide hle
    have hrs := runB_size t
    generalize runB t = R at RT HRB hrs
    clear hrb h3 hsz
    go_enter Tryz.func3, Tryz.ntmps3
    go_wp2_with fail
    refine RT.out.mono ?_
    rintro e w1 ⟨rfl, hb1⟩
    have HB1 := hide hb1
    clear hb1
    go_wp2_with fail
    refine (CU.out _).mono ?_
    rintro e w2 ⟨v, ps, hps, rfl, hown, hb2⟩
    have HB2 := hide (HB1.out.trans (hb2.mono HB1.out.size))
    have HY : Hid (∀ j, j < ps.length → w2.cell? ⟨(rowBlk v), j, none⟩ = some (.string (ps.getD j ByteArray.empty)) ∧ (ps.getD j ByteArray.empty).size ≤ 3000) := hide (fun j hj => ⟨row_cell hown hj, cut_size hps rfl H3.out rfl j hj⟩)
    rcases CL.out ps hps with ⟨hpl, hpe, hpj⟩ | ⟨m, hpl, hlm, hpe, hpj⟩
    · obtain ⟨n, hn⟩ : ∃ n, n = ls.length := ⟨_, rfl⟩
      rw [← hn] at hpl hpe hpj hle
      have HN := hide hn
      rw [hpl] at hown
      obtain ⟨g, c, hv, hgb, hgl, hnc, hcm⟩ := own_form hown (by omega)
      have eg : rowBlk v = g := by rw [hv]; rfl
      rw [eg, hpl] at HY
      subst hv
      have ql := (HY.out n (by omega)).1
      rw [hpe] at ql
      have HPJ := hide hpj
      have HGL := hide hgl
      clear hps hown hb2 hgb hgl eg hpj hpl hpe hn
      go_wp2_with fail
      refine (refNew7 w2).mono ?_
      rintro e w3 ⟨r, rfl, ⟨G0, hR0, hG0⟩, hb3⟩
      have HR0 := hide hR0
      have HG0 := hide hG0
      have HB3 := hide hb3
      clear hR0 hG0 hb3 ql
      go_wp2_with fail
      go_loopw [6, 7] (fun wv i wr => ∃ (j : Nat) (G : List Nat), i = .int .i64 (j : Int) ∧ j ≤ n ∧ wv = .string (owedB ls j) ∧ Hid (RefAt wr r 50 (linesV firstV (ls.take j)) G) ∧ Hid (∀ x ∈ G, w2.heap.size ≤ x) ∧ Below w2.heap.size w2 wr) (fun _ i _ => 4000 - (intOf i).toNat)
      case atStart => exact ⟨0, G0, rfl, by omega, rfl, hide HR0.out, hide HG0.out, HB3.out⟩
      case round =>
        obtain ⟨j, G, rfl, hjn, rfl, HR, HG, hbw⟩ := hrel
        have HBW := hide hbw
        by_cases hlt : j < n
        · have qj : wr.cell? ⟨g, j, none⟩ = some (.string (ps.getD j ByteArray.empty)) := (hbw.cell (p := ⟨g, j, none⟩) HGL.out).trans (HY.out j (by omega)).1
          have HS := hide (HPJ.out j hlt)
          have hjl : j < ls.length := by rw [← HN.out]; exact hlt
          have hI : RI (linesV firstV (ls.take j)) j := by
            have h1 := RI_lines (ls.take j) firstV 0 RI.first (by rw [List.length_take]; have := HLE.out; omega)
            have e : 0 + (ls.take j).length = j := by rw [List.length_take]; omega
            rw [e] at h1
            exact h1
          have hj4 : j < 4000 := by have := HLE.out; omega
          have LN := hide (fun W G1 (hR : RefAt W r 50 (linesV firstV (ls.take j)) G1) => refLine hI hj4 (s := ps.getD j ByteArray.empty) (by have := (HY.out j (by omega)).2; omega) W G1 hR)
          rw [HS.out] at LN
          have hll := line_le hI hj4 (ls.getD j [])
          have hws := owedB_size HLE.out j
          have HW := hide (fun (s : ByteArray) (hs : s.data.toList = (lineR (linesV firstV (ls.take j)) (ls.getD j [])).1) => owedB_next hjl hs)
          have HV := hide (linesV_next hjl)
          generalize ps.getD j ByteArray.empty = y at qj LN HS
          generalize owedB ls j = wb at hws HW
          generalize lineR (linesV firstV (ls.take j)) (ls.getD j []) = P at LN hll HW HV
          clear hI hjl hbw
          go_wp2_with fail
          refine (LN.out _ _ HR.out).mono ?_
          rintro e w4 ⟨⟨s, rfl, hs⟩, G', hR4, hs4⟩
          have hsl : s.size ≤ 60 := by
            have h1 : s.data.toList.length = s.size := by simp
            rw [← h1, hs]; exact hll
          have HWN := hide (HW.out s hs)
          have HR4 := hide hR4
          have HB4 := hide (HBW.out.trans (hs4.1.below HBW.out.size HG.out))
          have HG4 : Hid (∀ x ∈ G', w2.heap.size ≤ x) := hide (fun x hx => by
            rcases hs4.2 x hx with h | h
            · exact HG.out x h
            · have := HBW.out.size; omega)
          clear hs hR4 hs4 hll HW LN qj
          go_wp2
          go_roundw
          case rel => exact ⟨j + 1, G', by go_num, by omega, by rw [HWN.out], hide (by rw [HV.out]; exact HR4.out), HG4, HB4.out⟩
          case measure => simp [intOf]; omega
        · obtain rfl : j = n := by omega
          have hfin : owedB ls (j) = R := by rw [HRB.out, HN.out]
          rw [hfin]
          clear hfin hbw
          go_wp2
          go_ret
          exact ⟨rfl, HB2.out.trans (HBW.out.mono HB2.out.size)⟩
    · have HN := hide hlm.symm
      rw [hlm] at hle
      rw [hpl] at hown
      obtain ⟨g, c, hv, hgb, hgl, hnc, hcm⟩ := own_form hown (by omega)
      have eg : rowBlk v = g := by rw [hv]; rfl
      rw [eg, hpl] at HY
      subst hv
      have ql := (HY.out m (by omega)).1
      obtain ⟨y, hy⟩ : ∃ y, y = ps.getD m ByteArray.empty := ⟨_, rfl⟩
      rw [← hy] at ql hpe
      have HPJ := hide hpj
      have HGL := hide hgl
      clear hps hown hb2 hgb hgl eg hpj hpl hlm hy
      go_wp2_with fail
      refine (refNew7 w2).mono ?_
      rintro e w3 ⟨r, rfl, ⟨G0, hR0, hG0⟩, hb3⟩
      have HR0 := hide hR0
      have HG0 := hide hG0
      have HB3 := hide hb3
      clear hR0 hG0 hb3 ql hpe
      go_wp2_with fail
      go_loopw [6, 7] (fun wv i wr => ∃ (j : Nat) (G : List Nat), i = .int .i64 (j : Int) ∧ j ≤ m + 1 ∧ wv = .string (owedB ls j) ∧ Hid (RefAt wr r 50 (linesV firstV (ls.take j)) G) ∧ Hid (∀ x ∈ G, w2.heap.size ≤ x) ∧ Below w2.heap.size w2 wr) (fun _ i _ => 4000 - (intOf i).toNat)
      case atStart => exact ⟨0, G0, rfl, by omega, rfl, hide HR0.out, hide HG0.out, HB3.out⟩
      case round =>
        obtain ⟨j, G, rfl, hjn, rfl, HR, HG, hbw⟩ := hrel
        have HBW := hide hbw
        by_cases hlt : j < m + 1
        · have qj : wr.cell? ⟨g, j, none⟩ = some (.string (ps.getD j ByteArray.empty)) := (hbw.cell (p := ⟨g, j, none⟩) HGL.out).trans (HY.out j (by omega)).1
          have HS := hide (HPJ.out j hlt)
          have hjl : j < ls.length := by rw [← HN.out]; exact hlt
          have hI : RI (linesV firstV (ls.take j)) j := by
            have h1 := RI_lines (ls.take j) firstV 0 RI.first (by rw [List.length_take]; have := HLE.out; omega)
            have e : 0 + (ls.take j).length = j := by rw [List.length_take]; omega
            rw [e] at h1
            exact h1
          have hj4 : j < 4000 := by have := HLE.out; omega
          have LN := hide (fun W G1 (hR : RefAt W r 50 (linesV firstV (ls.take j)) G1) => refLine hI hj4 (s := ps.getD j ByteArray.empty) (by have := (HY.out j (by omega)).2; omega) W G1 hR)
          rw [HS.out] at LN
          have hll := line_le hI hj4 (ls.getD j [])
          have hws := owedB_size HLE.out j
          have HW := hide (fun (s : ByteArray) (hs : s.data.toList = (lineR (linesV firstV (ls.take j)) (ls.getD j [])).1) => owedB_next hjl hs)
          have HV := hide (linesV_next hjl)
          generalize ps.getD j ByteArray.empty = y at qj LN HS
          generalize owedB ls j = wb at hws HW
          generalize lineR (linesV firstV (ls.take j)) (ls.getD j []) = P at LN hll HW HV
          clear hI hjl hbw
          go_wp2_with fail
          refine (LN.out _ _ HR.out).mono ?_
          rintro e w4 ⟨⟨s, rfl, hs⟩, G', hR4, hs4⟩
          have hsl : s.size ≤ 60 := by
            have h1 : s.data.toList.length = s.size := by simp
            rw [← h1, hs]; exact hll
          have HWN := hide (HW.out s hs)
          have HR4 := hide hR4
          have HB4 := hide (HBW.out.trans (hs4.1.below HBW.out.size HG.out))
          have HG4 : Hid (∀ x ∈ G', w2.heap.size ≤ x) := hide (fun x hx => by
            rcases hs4.2 x hx with h | h
            · exact HG.out x h
            · have := HBW.out.size; omega)
          clear hs hR4 hs4 hll HW LN qj
          go_wp2
          go_roundw
          case rel => exact ⟨j + 1, G', by go_num, by omega, by rw [HWN.out], hide (by rw [HV.out]; exact HR4.out), HG4, HB4.out⟩
          case measure => simp [intOf]; omega
        · obtain rfl : j = m + 1 := by omega
          have hfin : owedB ls (m + 1) = R := by rw [HRB.out, HN.out]
          rw [hfin]
          clear hfin hbw
          go_wp2
          go_ret
          exact ⟨rfl, HB2.out.trans (HBW.out.mono HB2.out.size)⟩
end Go.Proofs.YtlnghfmcofmkjaaGreatDoor

namespace Go.Proofs.YtlnghfmcofmkjaaGreatDoor

theorem laidVars_mem {P : Program} {w : World} : ∀ {l : List (String × DataW Unit)} {ps : List MemPlace}, DataW.LaidVars P w l ps → ∀ x ∈ l,
    ∃ g t cs fuel p, P.globalNamed x.1 = some g ∧ (P.globals[g]?).map (·.type) = some t ∧ w.var? P x.1 = some cs ∧ DataW.trod (fun _ => ()) P w 0 (fun _ => true) false fuel t cs.toList = some (x.2, p)
  | [], _, _, x, hx => by cases hx
  | (n, d) :: r, ps, h, x, hx => by
    obtain ⟨g, t, cs, fuel, p, q, h1, h2, h3, h4, h5, _⟩ := h
    rcases List.mem_cons.1 hx with rfl | hx
    · exact ⟨g, t, cs, fuel, p, h1, h2, h3, h4⟩
    · exact laidVars_mem h5 x hx
theorem laidH_data {P : Program} {l : List (String × DataW Unit)} {w : World} (h : laidMetH P l w) {n : String} {d : DataW Unit} (hx : (n, d) ∈ l) (hn : d.handleName? = none) :
    ∃ g t cs fuel p, P.globalNamed n = some g ∧ (P.globals[g]?).map (·.type) = some t ∧ w.var? P n = some cs ∧ DataW.trod (fun _ => ()) P w 0 (fun _ => true) false fuel t cs.toList = some (d, p) := by
  have hm : (n, d) ∈ l.filter fun x => x.2.handleName?.isNone := List.mem_filter.2 ⟨hx, by simp [hn]⟩
  unfold laidMetH at h
  generalize (l.filter fun x => x.2.handleName?.isSome) = fl at h
  cases fl with
  | nil => obtain ⟨ps, h1, _⟩ := h; exact laidVars_mem h1 _ hx
  | cons b bs => obtain ⟨⟨ps, h1, _⟩, _⟩ := h; exact laidVars_mem h1 _ hm
theorem laidH_tab {P : Program} {l : List (String × DataW Unit)} {W : World} {name : String} {k : IntKind} {zs : List Int} {g : Nat} {t e : TypeId} {n : Nat} (h : laidMetH P l W) (hx : (name, Lib.tabData k zs) ∈ l)
    (hg : P.globalNamed name = some g) (hty : (P.globals[g]?).map (·.type) = some t) (ht : P.underlying t = some (.array n e)) (he : P.underlying e = some (.int k)) (hce : P.cellsOf e = 1) (hct : P.cellsOf t = n) : Lib.TabIs P W name k zs := by
  obtain ⟨g', t', cs, fuel, p, hg', ht', hvar, hd⟩ := laidH_data h hx (by simp [Lib.tabData, DataW.handleName?])
  obtain rfl := Option.some.inj (hg.symm.trans hg')
  obtain rfl := Option.some.inj (hty.symm.trans ht')
  unfold Lib.TabIs
  rw [hvar, ← Lib.cells_of_tab ht he hce hct hd]
theorem laidH_handle {P : Program} {l : List (String × DataW Unit)} {w : World} (h : laidMetH P l w) {x : String × DataW Unit} (hx : x ∈ l) (hs : x.2.handleName?.isSome = true) (hf : x.2.funcsIn? = none) :
    ∃ name u ty, x.2.handleName? = some name ∧ (P.cutTypes.find? (·.1 == "internal/reflectlite.rtype")).map (·.2) = some u ∧ ty < P.types.size ∧ P.rowNamed ty name = true ∧ w.var? P x.1 = some #[.iface u (.agg #[typeHandle P ty])] := by
  have hm : x ∈ l.filter fun x => x.2.handleName?.isSome := List.mem_filter.2 ⟨hx, hs⟩
  unfold laidMetH at h
  generalize (l.filter fun x => x.2.handleName?.isSome) = fl at h hm
  cases fl with
  | nil => cases hm
  | cons b bs =>
    have := h.2 _ hm
    rw [hf] at this
    exact this
end Go.Proofs.YtlnghfmcofmkjaaGreatDoor

namespace Go.Proofs.YtlnghfmcofmkjaaGreatDoor
open Go.ChangeShapes Go.WideShapes Go.RowKit

theorem Tryz.et : Tryz.prog.globalNamed "errors.errorType" = some 2 := by kernel_rfl
theorem Tryz.rt : (Tryz.prog.cutTypes.find? (·.1 == "internal/reflectlite.rtype")).map (·.2) = some 153 := by kernel_rfl
theorem Tryz.oneRow : ((List.range Tryz.prog.types.size).filter fun t => Tryz.prog.rowNamed t [101, 114, 114, 111, 114]) = [33] := by kernel_rfl

theorem Tryz.handle_of_laid {W : World} (h : laidMetH Tryz.prog [("errors.errorType", Rows.laid_errors_errorType)] W) : ErrT W := by
  have h' : laidMet Tryz.prog [] W ∧ handlesMet Tryz.prog [("errors.errorType", Rows.laid_errors_errorType)] W := h
  obtain ⟨name, u, ty, e1, e2, e3, e4, e5⟩ := h'.2 _ (List.mem_singleton.2 rfl)
  have en : name = [101, 114, 114, 111, 114] := (Option.some.inj e1).symm
  subst en
  obtain rfl := Option.some.inj (Tryz.rt.symm.trans e2)
  have hm : ty ∈ (List.range Tryz.prog.types.size).filter fun t => Tryz.prog.rowNamed t [101, 114, 114, 111, 114] := List.mem_filter.2 ⟨List.mem_range.2 e3, e4⟩
  rw [Tryz.oneRow] at hm
  obtain rfl := List.mem_singleton.1 hm
  have hh : typeHandle Tryz.prog 33 = .pointer (some ⟨11, 33, none⟩) := by kernel_rfl
  rw [hh] at e5
  simpa [ErrT] using World.var?_cell Tryz.et e5 0

noncomputable def Tryz.laidWorld (os : Os) : World :=
  let w0 := World.holding Tryz.prog os ⟨#[], #[], []⟩
  { w0 with heap := w0.heap.modify 2 fun
      | .cells _ t frozen => .cells #[.iface 153 (.agg #[.pointer (some ⟨11, 33, none⟩)])] t frozen
      | o => o }
end Go.Proofs.YtlnghfmcofmkjaaGreatDoor

namespace Go.Proofs.YtlnghfmcofmkjaaGreatDoor
open Go.ChangeShapes Go.WideShapes Go.ChangeAt Go.WideMaps Go.WideElems Go.RowKit

theorem laidVars_mem2 {P : Program} {w : World} : ∀ {l : List (String × DataW Unit)} {ps : List MemPlace}, DataW.LaidVars P w l ps → ∀ x ∈ l,
    ∃ g t cs fuel p, P.globalNamed x.1 = some g ∧ (P.globals[g]?).map (·.type) = some t ∧ w.var? P x.1 = some cs ∧ DataW.trod (fun _ => ()) P w 0 (fun _ => true) false fuel t cs.toList = some (x.2, p) ∧ ∀ i, i < cs.size → MemPlace.cell g i ∈ ps
  | [], _, _, x, hx => by cases hx
  | (n, d) :: r, ps, h, x, hx => by
    obtain ⟨g, t, cs, fuel, p, q, h1, h2, h3, h4, h5, h6⟩ := h
    rcases List.mem_cons.1 hx with rfl | hx
    · refine ⟨g, t, cs, fuel, p, h1, h2, h3, h4, fun i hi => ?_⟩
      rw [h6]
      refine List.mem_append_left _ (List.mem_append_left _ ?_)
      simp only [MemPlace.row, List.mem_map, List.mem_range]
      exact ⟨i, hi, by simp⟩
    · obtain ⟨g', t', cs', fuel', p', a1, a2, a3, a4, a5⟩ := laidVars_mem2 h5 x hx
      exact ⟨g', t', cs', fuel', p', a1, a2, a3, a4, fun i hi => by rw [h6]; exact List.mem_append_right _ (a5 i hi)⟩
theorem laidH_data2 {P : Program} {l : List (String × DataW Unit)} {w : World} (h : laidMetH P l w) {n : String} {d : DataW Unit} (hx : (n, d) ∈ l) (hn : d.handleName? = none) :
    ∃ g t cs fuel p, P.globalNamed n = some g ∧ (P.globals[g]?).map (·.type) = some t ∧ w.var? P n = some cs ∧ DataW.trod (fun _ => ()) P w 0 (fun _ => true) false fuel t cs.toList = some (d, p) ∧ ∀ i, i < cs.size → ∀ u v, w.cell? ⟨g, i, none⟩ = some (.iface u v) → Value.okWide P w .any 0 u v := by
  have hm : (n, d) ∈ l.filter fun x => x.2.handleName?.isNone := List.mem_filter.2 ⟨hx, by simp [hn]⟩
  have fin : ∀ l', laidMet P l' w → (n, d) ∈ l' → ∃ g t cs fuel p, P.globalNamed n = some g ∧ (P.globals[g]?).map (·.type) = some t ∧ w.var? P n = some cs ∧ DataW.trod (fun _ => ()) P w 0 (fun _ => true) false fuel t cs.toList = some (d, p) ∧ ∀ i, i < cs.size → ∀ u v, w.cell? ⟨g, i, none⟩ = some (.iface u v) → Value.okWide P w .any 0 u v := by
    rintro l' ⟨ps, h1, _, h3⟩ hm'
    obtain ⟨g, t, cs, fuel, p, a1, a2, a3, a4, a5⟩ := laidVars_mem2 h1 _ hm'
    exact ⟨g, t, cs, fuel, p, a1, a2, a3, a4, fun i hi => (h3 g i (a5 i hi)).2⟩
  unfold laidMetH at h
  generalize (l.filter fun x => x.2.handleName?.isSome) = fl at h
  cases fl with
  | nil => exact fin l h hx
  | cons b bs => exact fin _ h.1 hm
/-- a listed variable of an interface type holds an interface value -/
theorem laidH_iface {P : Program} {l : List (String × DataW Unit)} {w : World} (h : laidMetH P l w) {n : String} {nm : String} {d : DataW Unit} (hx : (n, .iface nm d) ∈ l) (hn : (DataW.iface nm d).handleName? = none) {g : Nat} {t : TypeId} {ms : Array (String × TypeId)}
    (hg : P.globalNamed n = some g) (ht : (P.globals[g]?).map (·.type) = some t) (hi : P.underlying t = some (.interface ms)) : ∃ te pe, w.cell? ⟨g, 0, none⟩ = some (.iface te pe) := by
  obtain ⟨g', t', cs, fuel, p, hg', ht', hv, hd, _⟩ := laidH_data2 h hx hn
  obtain rfl := Option.some.inj (hg.symm.trans hg')
  obtain rfl := Option.some.inj (ht.symm.trans ht')
  obtain ⟨f1, u, v, hcs, _, _⟩ := iface_of_trod hi hd
  have := World.var?_cell hg hv 0
  rw [Array.eq_one_of_toList hcs] at this
  exact ⟨u, v, by simpa using this⟩
theorem Tryz.gUnread : Tryz.prog.globalNamed "tokenfold/run.unread" = some 1 := by kernel_rfl
theorem Tryz.gWants : Tryz.prog.globalNamed "tokenfold/run.wants" = some 0 := by kernel_rfl
theorem Tryz.gSyn : Tryz.prog.globalNamed "strconv.ErrSyntax" = some 6 := by kernel_rfl
theorem Tryz.gRan : Tryz.prog.globalNamed "strconv.ErrRange" = some 7 := by kernel_rfl
theorem Tryz.tUnread : (Tryz.prog.globals[1]?).map (·.type) = some 95 := by kernel_rfl
theorem Tryz.tWants : (Tryz.prog.globals[0]?).map (·.type) = some 120 := by kernel_rfl
theorem Tryz.tSyn : (Tryz.prog.globals[6]?).map (·.type) = some 33 := by kernel_rfl
theorem Tryz.tRan : (Tryz.prog.globals[7]?).map (·.type) = some 33 := by kernel_rfl
theorem powR_data : (Rows.laid_internal_strconv_uint64pow10 : DataW Unit) = Lib.tabData .u64 Lib.pow10Tab := by kernel_rfl
theorem Tryz.strLaw : KeyLaw Tryz.prog 9 := string_law Tryz.underlying9
theorem type_one {P : Program} {nm : String} {tp : TypeId} (hrows : ((List.range P.types.size).all fun u => P.typeName? 3 u != some nm || u == tp) = true) (hstar : nm.toList.head? ≠ some (Char.ofNat 42)) (u : TypeId) (hu : P.typeName? 3 u = some nm) : u = tp := by
  by_cases hlt : u < P.types.size
  · have h1 := List.all_eq_true.1 hrows u (List.mem_range.2 hlt)
    rw [hu] at h1
    simpa using h1
  · exfalso
    unfold Program.typeName? at hu
    cases hi : P.info? u with
    | none => simp [hi] at hu
    | some i =>
      have hb := Tables.info?_beyond hlt hi
      simp only [hi] at hu
      cases hd : i.desc <;> simp only [hd, TypeDesc.tableOnly] at hu hb <;> try cases hb
      all_goals try cases hu
      simp only [Option.map_eq_some_iff] at hu
      obtain ⟨n', _, hs⟩ := hu
      apply hstar
      rw [← hs]
      simp
theorem Tryz.errnoRow (u : TypeId) (h : Tryz.prog.typeName? 3 u = some "tokenfold/api.Errno") : u = 82 := type_one (by kernel_rfl) (by decide) u h
theorem one_int {P : Program} {w : World} {t : TypeId} {k : IntKind} (ht : P.underlying t = some (.int k)) {v : Value} {n : Int} (hv : v.cells.toList = [.int k n]) (ho : Value.okWide P w .any 0 t v) : v = .int k n := by
  unfold Value.okWide at ho
  simp only [ht] at ho
  unfold Cell.okWide at ho
  cases v <;> simp [Value.cells, Cell.ok, ht] at ho hv
  obtain ⟨rfl, rfl⟩ := hv
  rfl
theorem wants_find (l : List UInt8) : (Rows.laid_tokenfold_run_wants : DataW Unit).atKey (.string l) .nil = (if l = [97, 103, 97, 105, 110] then .lit (.int .i64 6) else if l = [99, 114, 97, 115, 104] then .lit (.int .i64 0) else if l = [104, 101, 108, 108, 111] then .lit (.int .i64 2) else if l = [112, 117, 108, 108] then .lit (.int .i64 0) else if l = [116, 105, 99, 107, 101, 116] then .lit (.int .i64 1) else if l = [116, 117, 114, 110] then .lit (.int .i64 0) else if l = [119, 97, 105, 116, 105, 110, 103] then .lit (.int .i64 0) else .nil) := by
  unfold Rows.laid_tokenfold_run_wants DataW.atKey
  simp only [List.find?, Lit.sameKey]
  have hb : ∀ (a : List UInt8), (a == l) = decide (l = a) := fun a => by
    by_cases h : l = a
    · subst h; simp
    · rw [decide_eq_false h]
      exact beq_eq_false_iff_ne.2 (fun e => h e.symm)
  rw [hb, hb, hb, hb, hb, hb, hb]
  by_cases h1 : l = [97, 103, 97, 105, 110]
  · subst h1; rfl
  rw [decide_eq_false h1, if_neg h1]
  by_cases h2 : l = [99, 114, 97, 115, 104]
  · subst h2; rfl
  rw [decide_eq_false h2, if_neg h2]
  by_cases h3 : l = [104, 101, 108, 108, 111]
  · subst h3; rfl
  rw [decide_eq_false h3, if_neg h3]
  by_cases h4 : l = [112, 117, 108, 108]
  · subst h4; rfl
  rw [decide_eq_false h4, if_neg h4]
  by_cases h5 : l = [116, 105, 99, 107, 101, 116]
  · subst h5; rfl
  rw [decide_eq_false h5, if_neg h5]
  by_cases h6 : l = [116, 117, 114, 110]
  · subst h6; rfl
  rw [decide_eq_false h6, if_neg h6]
  by_cases h7 : l = [119, 97, 105, 116, 105, 110, 103]
  · subst h7; rfl
  rw [decide_eq_false h7, if_neg h7]
/-- the map's datum answers as wantsL does -/
theorem wants_at (l : List UInt8) : (Rows.laid_tokenfold_run_wants : DataW Unit).atKey (.string l) .nil = (match wantsL l with | some n => .lit (.int .i64 (n : Int)) | none => .nil) := by
  rw [wants_find]
  cases hw : wantsL l with
  | some n =>
    rcases wants_len hw with ⟨rfl, rfl⟩ | ⟨rfl, rfl⟩ | ⟨rfl, rfl⟩ | ⟨rfl, rfl⟩ | ⟨rfl, rfl⟩ | ⟨rfl, rfl⟩ | ⟨rfl, rfl⟩ <;> rfl
  | none =>
    unfold wantsL at hw
    simp only
    repeat' split
    all_goals (first | rfl | (subst l; simp at hw))
set_option maxRecDepth 100000 in
theorem Tryz.wants_of_laid {l : List (String × DataW Unit)} {W : World} (h : laidMetH Tryz.prog l W) (hx : ("tokenfold/run.wants", Rows.laid_tokenfold_run_wants) ∈ l) : ∃ bm es clock, W.cell? ⟨0, 0, none⟩ = some (.map (some bm)) ∧ bm < W.heap.size ∧ W.heap[bm]? = some (.map es clock) ∧ WantsM es clock := by
  obtain ⟨g', t', cs, fuel, p, hg', ht', hv, hd, _⟩ := laidH_data2 h hx rfl
  obtain rfl := Option.some.inj (Tryz.gWants.symm.trans hg')
  obtain rfl := Option.some.inj (Tryz.tWants.symm.trans ht')
  rcases open_map Tryz.underlying120 hd with ⟨_, hz⟩ | ⟨bm, es, clock, m, rfl, hcs, hb, _, F, hz⟩
  · simp [Rows.laid_tokenfold_run_wants] at hz
  simp only [Prod.mk.injEq] at hz
  have hcell : W.cell? ⟨0, 0, none⟩ = some (.map (some bm)) := by
    have := World.var?_cell Tryz.gWants hv 0
    rw [Array.eq_one_of_toList hcs] at this
    simpa using this
  refine ⟨bm, es, clock, hcell, lt_of_block hb, hb, fun W' b hb' s hs => ?_⟩
  have zero : (zeroValue 3).run Tryz.prog W' = .ok (.int .i64 0) W' := by kernel_rfl
  have hwa := wants_at s.data.toList
  rcases fit_lookup_ok (w := W') Tryz.strLaw Tryz.underlying120 zero hb' F (keyOf_string_mk (s := s) Tryz.underlying9 (by unfold maxLen; omega)) with ⟨hrun, hat⟩ | ⟨v, y, hrun, hRv, hat, _⟩
  · have h1 := hat (.lit (.bool true))
    have h2 := hat .nil
    rw [← hz.1] at h1 h2
    rw [hrun]
    cases hw : wantsL s.data.toList with
    | some n =>
      rw [hw] at hwa
      simp only at hwa
      rw [h2] at hwa
      cases hwa
    | none => unfold wantN wantB; rw [hw]; rfl
  · obtain ⟨r, rfl, rfl, _⟩ := elemAt_int Tryz.underlying3 hRv
    have h2 := hat .nil
    rw [← hz.1, hwa] at h2
    rw [hrun]
    cases hw : wantsL s.data.toList with
    | some n =>
      rw [hw] at h2
      simp only [DataW.lit.injEq, Lit.int.injEq, true_and] at h2
      unfold wantN wantB
      rw [hw, ← h2]
      rfl
    | none => rw [hw] at h2; cases h2
set_option maxRecDepth 100000 in
theorem Tryz.unread_of_laid {l : List (String × DataW Unit)} {W : World} (h : laidMetH Tryz.prog l W) (hx : ("tokenfold/run.unread", Rows.laid_tokenfold_run_unread) ∈ l) : W.cell? ⟨1, 0, none⟩ = some (.iface 82 (.int .i64 2)) := by
  obtain ⟨g', t', cs, fuel, p, hg', ht', hv, hd, hok⟩ := laidH_data2 h hx rfl
  obtain rfl := Option.some.inj (Tryz.gUnread.symm.trans hg')
  obtain rfl := Option.some.inj (Tryz.tUnread.symm.trans ht')
  obtain ⟨⟨y1, y2⟩, n, hz, hl, hy⟩ := trod_struct1 Tryz.underlying95 hd
  simp only [Rows.laid_tokenfold_run_unread, Prod.mk.injEq, DataW.agg.injEq, List.cons.injEq, and_true] at hz
  obtain ⟨rfl, rfl⟩ := hz
  have c1 : Tryz.prog.cellsOf 95 = 1 := by kernel_rfl
  have c2 : Tryz.prog.cellsOf 33 = 1 := by kernel_rfl
  rw [c1] at hl
  obtain ⟨f1, u, v, hcs, hnm, hin⟩ := iface_of_trod Tryz.errIface hy
  obtain rfl := Tryz.errnoRow u hnm
  have hcs2 : cs.toList = [.iface 82 v] := by
    match hc : cs.toList, hl with
    | [c], _ =>
      rw [hc] at hcs
      simp only [c2, List.drop_zero, List.take_succ_cons, List.take_zero] at hcs
      exact hcs
  obtain ⟨k, hv1, hv2, _⟩ := DataW.trod_int Tryz.underlying82 hin
  simp only [Prod.mk.injEq, DataW.lit.injEq, Lit.int.injEq, true_and] at hv2
  have hk : k = 2 := hv2.1.symm
  subst hk
  have hcell : W.cell? ⟨1, 0, none⟩ = some (.iface 82 v) := by
    have := World.var?_cell Tryz.gUnread hv 0
    rw [Array.eq_one_of_toList hcs2] at this
    simpa using this
  have hsz : 0 < cs.size := by
    have : cs.toList.length = cs.size := by simp
    omega
  rw [hcell, one_int Tryz.underlying82 hv1 (hok 0 hsz _ _ hcell)]
set_option maxRecDepth 100000 in
theorem Tryz.env_of_laid {l : List (String × DataW Unit)} {W : World} (h : laidMetH Tryz.prog l W) (hsh : W.ShapedOpen Tryz.prog) (h1 : ("errors.errorType", Rows.laid_errors_errorType) ∈ l) (h2 : ("internal/strconv.uint64pow10", Rows.laid_internal_strconv_uint64pow10) ∈ l)
    (h3 : ("strconv.ErrRange", Rows.laid_strconv_ErrRange) ∈ l) (h4 : ("strconv.ErrSyntax", Rows.laid_strconv_ErrSyntax) ∈ l) (h5 : ("tokenfold/run.unread", Rows.laid_tokenfold_run_unread) ∈ l) (h6 : ("tokenfold/run.wants", Rows.laid_tokenfold_run_wants) ∈ l) : EnvR W.heap.size W := by
  have et : ErrT W := by
    obtain ⟨name, u, ty, e1, e2, e3, e4, e5⟩ := laidH_handle h h1 rfl rfl
    have en : name = [101, 114, 114, 111, 114] := (Option.some.inj e1).symm
    subst en
    obtain rfl := Option.some.inj (Tryz.rt.symm.trans e2)
    have hm : ty ∈ (List.range Tryz.prog.types.size).filter fun t => Tryz.prog.rowNamed t [101, 114, 114, 111, 114] := List.mem_filter.2 ⟨List.mem_range.2 e3, e4⟩
    rw [Tryz.oneRow] at hm
    obtain rfl := List.mem_singleton.1 hm
    have hh : typeHandle Tryz.prog 33 = .pointer (some ⟨11, 33, none⟩) := by kernel_rfl
    rw [hh] at e5
    simpa [ErrT] using World.var?_cell Tryz.et e5 0
  have mx := cell_of_shapedOpen_int (g := 3) (zero := #[.int .i64 0]) (t := 3) hsh (of_decide_eq_true (by kernel_rfl)) (by kernel_rfl) rfl (by kernel_rfl) (by kernel_rfl) Tryz.underlying3
  obtain ⟨bm, es, clock, g1, g2, g3, g4⟩ := Tryz.wants_of_laid h h6
  have pw : PowT W := laidH_tab h (by rw [← powR_data]; exact h2) Tryz.powG (t := 245) (e := 221) (n := 20) (by kernel_rfl) (by kernel_rfl) (by kernel_rfl) (by kernel_rfl) (by kernel_rfl)
  have hpl : 8 + 1 ≤ W.heap.size := by
    have h := pw
    unfold PowT Lib.TabIs World.var? at h
    rw [Tryz.powG] at h
    simp only [Option.bind_some] at h
    by_cases hl : 8 < W.heap.size
    · exact hl
    · rw [Array.getElem?_eq_none (by omega)] at h
      simp at h
  exact ⟨pw,
    ⟨laidH_iface h h4 rfl Tryz.gSyn Tryz.tSyn Tryz.errIface, laidH_iface h h3 rfl Tryz.gRan Tryz.tRan Tryz.errIface⟩, mx, et, Tryz.unread_of_laid h h5, ⟨bm, es, clock, g1, g2, g3, g4⟩, hpl⟩
/-- the cells of a table -/
def aggCells : DataW Unit → Array Value
  | .agg ds => (ds.map fun | .lit (.int k n) => Value.int k n | _ => undef).toArray
  | _ => #[]
noncomputable def Tryz.laidWorldR (os : Os) : World :=
  let w0 := World.doorLaid Tryz.prog 400 os
  { w0 with heap := w0.heap.modify 4 fun
      | .cells _ t frozen => .cells (aggCells Go.Pinned.utf8First) t frozen
      | o => o }
end Go.Proofs.YtlnghfmcofmkjaaGreatDoor
