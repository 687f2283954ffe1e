/- LogKeeps: a step of a round. -/
import Derived.Test.YtjbpkmmpbhngbaaGreatDoorLKBody
import Derived.Deep.RegionHeldLaw
import Derived.Deep.RegionHeld3
import Derived.Deep.Cut
import Derived.IntWalk
import Derived.Deep.AppendLies
import Derived.Deep.DeepCutAuto
import Derived.Deep.CutBlock
namespace Go.Proofs.YtjbpkmmpbhngbaaGreatDoor
open Go.RowKit

set_option linter.unusedVariables false
set_option maxRecDepth 1000000 in
set_option maxHeartbeats 32000000 in
theorem lkStep (w w9 : World) (b p k : Nat) (a : Option Addr) (len cap : Nat) (zz : List (List Int)) (a2 : Option Addr) (len2 cap2 : Nat) (ss : List Int) (S : LS) (v dv mv : Value) (vs : List Value) (Qx : Exit → Act → World → Prop)
    (c2 c3 c4 c5 c6 c7 c8 c9 c10 c11 c12 c13 c18 c20 c21 c22 c23 c24 c25 c26 c27 c28 c29 c30 c31 c32 c33 c34 c35 c36 c37 c38 c39 c40 c41 c42 c43 c44 c45 c46 c47 c48 c49 c50 c51 c52 c53 c54 c55 c56 c57 c58 c59 c60 c61 c62 c63 c64 c65 c66 c67 c68 c69 c70 c71 c72 c73 c74 c75 c76 c77 c78 c79 c80 c81 c82 c83 c84 c85 c86 c87 c88 c89 c90 c91 c92 c93 c94 c95 c96 c97 c98 c99 c100 c101 c102 c103 c104 c105 c106 c107 c108 c109 c110 c111 c112 c113 c114 c115 c116 c117 c118 c119 c120 c121 c122 c123 c124 c125 c126 c127 c128 c129 c130 c131 c132 c133 c134 c135 c136 c137 c138 c139 c140 c141 c142 c143 c144 c145 c146 c147 c148 c149 c150 c151 c152 c153 c154 c155 c156 c157 c158 c159 c160 c161 c162 c163 c164 c165 c166 c167 c168 c169 c170 c171 c172 c173 c174 c175 c176 c177 c178 c179 c180 c181 c182 c183 c184 c185 c186 c187 c188 c189 c190 c191 c192 c193 c194 c195 c196 c197 c198 c199 c200 c201 c202 c203 c204 c205 c206 c207 c208 c209 c210 c211 c212 c213 c214 c215 c216 c217 c218 c219 c220 c221 c222 c223 c224 c225 c226 c227 c228 c229 c230 c231 c232 c233 c234 c235 c236 c237 c238 c239 c240 c241 c242 c243 c244 c245 c246 c247 c248 c249 c250 c251 c252 c253 c254 c255 c256 c257 c258 c259 c260 c261 c262 c263 c264 c265 c266 c267 c268 c269 c270 c271 c272 c273 c274 c275 c276 c277 c278 c279 c280 c281 c282 c283 c284 c285 c286 c287 c288 c289 c290 c291 c292 c293 c294 c295 c296 c297 c298 c299 c300 c301 : Value)
    (hm : len ≤ 9223372036854775807) (hm2 : len2 ≤ 9223372036854775807) (HT : Hid (Tabs w)) (HR : Hid (MatHid w a len zz)) (HR2 : Hid (RowHid w a2 len2 ss)) (hp : p < len) (hk : k < 12)
    (HK : Hid (KA w w9 b S v dv mv vs S.rs S.rs))
    (hend : Hid (∀ (v8 v20 v21 v22 v23 v24 v25 v26 v27 v97 v98 v99 v100 v101 v102 v103 v104 v105 v106 v107 v108 v109 v110 v111 v112 v113 v114 v115 v116 v117 v118 v119 v120 v121 v122 v123 v124 v125 v126 v127 v128 v129 v130 v131 v132 v133 v134 v135 v136 v137 v138 v139 v140 v141 v142 v143 v144 v145 v146 v147 v148 v149 v150 v151 v152 v153 v154 v155 v156 v157 v158 v159 v160 v161 v162 v163 v164 v165 v166 v167 v168 v169 v170 v171 v172 v173 v174 v175 v176 v177 v178 v179 v180 v181 v182 v183 v184 v185 v186 v187 v188 v189 v190 v191 v192 v193 v194 v195 v196 v197 v198 v199 v200 v201 v202 v203 v204 v205 v206 v207 v208 v209 v210 v211 v212 v213 v214 v215 v216 v217 v218 v219 v220 v221 v222 v223 : Value) (S' : LS) (v' dv' mv' : Value) (vs' : List Value) (w' : World), Hid (KA w w' b S' v' dv' mv' vs' S'.rs S'.rs) → Qx Exit.normal { tmps := List.toArray ((.slice a len cap : Value) :: (.slice a2 len2 cap2 : Value) :: c2 :: c3 :: c4 :: c5 :: c6 :: c7 :: v8 :: c9 :: c10 :: c11 :: c12 :: c13 :: (.pointer (some ⟨b, 0, none⟩) : Value) :: dv' :: mv' :: (.int .i64 ((p : Int) + 1) : Value) :: c18 :: (.int .i64 ((k : Int) + 1) : Value) :: v20 :: v21 :: v22 :: v23 :: v24 :: v25 :: v26 :: v27 :: c28 :: c29 :: c30 :: c31 :: c32 :: c33 :: c34 :: c35 :: c36 :: c37 :: c38 :: c39 :: c40 :: c41 :: c42 :: c43 :: c44 :: c45 :: c46 :: c47 :: c48 :: c49 :: c50 :: c51 :: c52 :: c53 :: c54 :: c55 :: c56 :: c57 :: c58 :: c59 :: c60 :: c61 :: c62 :: c63 :: c64 :: c65 :: c66 :: c67 :: c68 :: c69 :: c70 :: c71 :: c72 :: c73 :: c74 :: c75 :: c76 :: c77 :: c78 :: c79 :: c80 :: c81 :: c82 :: c83 :: c84 :: c85 :: c86 :: c87 :: c88 :: c89 :: c90 :: c91 :: c92 :: c93 :: c94 :: c95 :: c96 :: v97 :: v98 :: v99 :: v100 :: v101 :: v102 :: v103 :: v104 :: v105 :: v106 :: v107 :: v108 :: v109 :: v110 :: v111 :: v112 :: v113 :: v114 :: v115 :: v116 :: v117 :: v118 :: v119 :: v120 :: v121 :: v122 :: v123 :: v124 :: v125 :: v126 :: v127 :: v128 :: v129 :: v130 :: v131 :: v132 :: v133 :: v134 :: v135 :: v136 :: v137 :: v138 :: v139 :: v140 :: v141 :: v142 :: v143 :: v144 :: v145 :: v146 :: v147 :: v148 :: v149 :: v150 :: v151 :: v152 :: v153 :: v154 :: v155 :: v156 :: v157 :: v158 :: v159 :: v160 :: v161 :: v162 :: v163 :: v164 :: v165 :: v166 :: v167 :: v168 :: v169 :: v170 :: v171 :: v172 :: v173 :: v174 :: v175 :: v176 :: v177 :: v178 :: v179 :: v180 :: v181 :: v182 :: v183 :: v184 :: v185 :: v186 :: v187 :: v188 :: v189 :: v190 :: v191 :: v192 :: v193 :: v194 :: v195 :: v196 :: v197 :: v198 :: v199 :: v200 :: v201 :: v202 :: v203 :: v204 :: v205 :: v206 :: v207 :: v208 :: v209 :: v210 :: v211 :: v212 :: v213 :: v214 :: v215 :: v216 :: v217 :: v218 :: v219 :: v220 :: v221 :: v222 :: v223 :: c224 :: c225 :: c226 :: c227 :: c228 :: c229 :: c230 :: c231 :: c232 :: c233 :: c234 :: c235 :: c236 :: c237 :: c238 :: c239 :: c240 :: c241 :: c242 :: c243 :: c244 :: c245 :: c246 :: c247 :: c248 :: c249 :: c250 :: c251 :: c252 :: c253 :: c254 :: c255 :: c256 :: c257 :: c258 :: c259 :: c260 :: c261 :: c262 :: c263 :: c264 :: c265 :: c266 :: c267 :: c268 :: c269 :: c270 :: c271 :: c272 :: c273 :: c274 :: c275 :: c276 :: c277 :: c278 :: c279 :: c280 :: c281 :: c282 :: c283 :: c284 :: c285 :: c286 :: c287 :: c288 :: c289 :: c290 :: c291 :: c292 :: c293 :: c294 :: c295 :: c296 :: c297 :: c298 :: c299 :: c300 :: c301 :: List.nil), defers := [] } w')) :
    Code.wp Tryz.prog lkBody2 Qx { tmps := List.toArray ((.slice a len cap : Value) :: (.slice a2 len2 cap2 : Value) :: c2 :: c3 :: c4 :: c5 :: c6 :: c7 :: c8 :: c9 :: c10 :: c11 :: c12 :: c13 :: (.pointer (some ⟨b, 0, none⟩) : Value) :: dv :: mv :: (.int .i64 (p : Int) : Value) :: c18 :: (.int .i64 (k : Int) : Value) :: c20 :: c21 :: c22 :: c23 :: c24 :: c25 :: c26 :: c27 :: c28 :: c29 :: c30 :: c31 :: c32 :: c33 :: c34 :: c35 :: c36 :: c37 :: c38 :: c39 :: c40 :: c41 :: c42 :: c43 :: c44 :: c45 :: c46 :: c47 :: c48 :: c49 :: c50 :: c51 :: c52 :: c53 :: c54 :: c55 :: c56 :: c57 :: c58 :: c59 :: c60 :: c61 :: c62 :: c63 :: c64 :: c65 :: c66 :: c67 :: c68 :: c69 :: c70 :: c71 :: c72 :: c73 :: c74 :: c75 :: c76 :: c77 :: c78 :: c79 :: c80 :: c81 :: c82 :: c83 :: c84 :: c85 :: c86 :: c87 :: c88 :: c89 :: c90 :: c91 :: c92 :: c93 :: c94 :: c95 :: c96 :: c97 :: c98 :: c99 :: c100 :: c101 :: c102 :: c103 :: c104 :: c105 :: c106 :: c107 :: c108 :: c109 :: c110 :: c111 :: c112 :: c113 :: c114 :: c115 :: c116 :: c117 :: c118 :: c119 :: c120 :: c121 :: c122 :: c123 :: c124 :: c125 :: c126 :: c127 :: c128 :: c129 :: c130 :: c131 :: c132 :: c133 :: c134 :: c135 :: c136 :: c137 :: c138 :: c139 :: c140 :: c141 :: c142 :: c143 :: c144 :: c145 :: c146 :: c147 :: c148 :: c149 :: c150 :: c151 :: c152 :: c153 :: c154 :: c155 :: c156 :: c157 :: c158 :: c159 :: c160 :: c161 :: c162 :: c163 :: c164 :: c165 :: c166 :: c167 :: c168 :: c169 :: c170 :: c171 :: c172 :: c173 :: c174 :: c175 :: c176 :: c177 :: c178 :: c179 :: c180 :: c181 :: c182 :: c183 :: c184 :: c185 :: c186 :: c187 :: c188 :: c189 :: c190 :: c191 :: c192 :: c193 :: c194 :: c195 :: c196 :: c197 :: c198 :: c199 :: c200 :: c201 :: c202 :: c203 :: c204 :: c205 :: c206 :: c207 :: c208 :: c209 :: c210 :: c211 :: c212 :: c213 :: c214 :: c215 :: c216 :: c217 :: c218 :: c219 :: c220 :: c221 :: c222 :: c223 :: c224 :: c225 :: c226 :: c227 :: c228 :: c229 :: c230 :: c231 :: c232 :: c233 :: c234 :: c235 :: c236 :: c237 :: c238 :: c239 :: c240 :: c241 :: c242 :: c243 :: c244 :: c245 :: c246 :: c247 :: c248 :: c249 :: c250 :: c251 :: c252 :: c253 :: c254 :: c255 :: c256 :: c257 :: c258 :: c259 :: c260 :: c261 :: c262 :: c263 :: c264 :: c265 :: c266 :: c267 :: c268 :: c269 :: c270 :: c271 :: c272 :: c273 :: c274 :: c275 :: c276 :: c277 :: c278 :: c279 :: c280 :: c281 :: c282 :: c283 :: c284 :: c285 :: c286 :: c287 :: c288 :: c289 :: c290 :: c291 :: c292 :: c293 :: c294 :: c295 :: c296 :: c297 :: c298 :: c299 :: c300 :: c301 :: List.nil), defers := [] } w9 := by
  conv => arg 2; whnf
  obtain ⟨gd, cd, gm, cm, rfl, rfl, f1, f2, f3, f4, f5, f6, f7, f8⟩ := HK.out.form
  have hbel := HK.out.bel
  have hvl := HK.out.len
  have hml := marksR_len S.rs
  have hS30 := HK.out.ok.len
  obtain ⟨m, hmm⟩ : ∃ m, m = S.rs.length := ⟨_, rfl⟩
  have hvl2 : vs.length = m + 1 := by omega
  have hml2 : (marksR S.rs).length = m + 1 := by omega
  rw [hvl2] at HK f1 f7 ⊢
  rw [hml2] at HK f2 f8 ⊢
  have hm30 : m ≤ 30 := by omega
  have HMM := hide hmm
  have HVL := hide hvl2
  unfold maxLen at f3 f4
  clear f7 f8 hmm hvl2 hml2 hvl hml
  go_upto_region 21 with (fail)
  go_cut [129] from 107 to 128 (fun tx wx => tx = .bool false ∧ ∃ S1 : LS, Hid (S1.rs = S.rs) ∧ Hid (KA w wx b S1 v (.slice (some ⟨gd, 0, none⟩) (m + 1) cd) (.slice (some ⟨gm, 0, none⟩) (m + 1) cm) vs S.rs S.rs))
  case first =>
    by_cases h3 : p < len2
    · obtain ⟨b3, off3, rfl, hlt3, hc3⟩ : ∃ b off, a2 = some ⟨b, off, none⟩ ∧ b < w.heap.size ∧ w.cell? ⟨b, off + p, none⟩ = some (.int .i64 (ss.getD p 0)) := by
        rcases HR2.out with h | ⟨b, off, h4, h5, _, _, h6⟩
        · omega
        · exact ⟨b, off, h4, h5, h6 p h3⟩
      have hc9 := (hbel.cell (p := ⟨b3, off3 + p, none⟩) hlt3).trans hc3
      generalize ss.getD p 0 = y at hc9
      clear hc3
      by_cases hy : y = 1
      · subst hy
        have SY := hide (kaSync HK.out)
        obtain ⟨hrs, hcs⟩ := sync_cases S
        have HRS := hide hrs
        clear hrs
        rcases hcs with hc | ⟨hc, hsf⟩
        · rw [hc] at SY
          clear hc
          go_wp2_with fail
          refine SY.out.mono ?_
          rintro e w10 ⟨rfl, h10⟩
          have H10 := hide h10
          clear h10
          go_wp2
          go_meet
          case rel => exact ⟨rfl, _, HRS, H10⟩
        · rw [hc] at SY
          have SF := hide (fun W (hW : LW w W b S.sync.1) => lwSafe hW)
          rw [hsf] at SF
          have BY := hide (fun W (hW : LW w W b S.sync.1) => lwBytes hW)
          clear hc hsf
          obtain ⟨N0, hN0⟩ : ∃ N : Int, N = (S.sync.1.bytes.length : Int) := ⟨_, rfl⟩
          rw [← hN0] at SF BY
          clear hN0
          go_wp2_with fail
          refine SY.out.mono ?_
          rintro e w10 ⟨rfl, h10⟩
          have H10 := hide h10
          clear h10
          go_wp2_with (first
            | (go_at_call 12; refine (BY.out _ H10.out.lw).mono ?_; rintro e w' ⟨rfl, rfl⟩)
            | (go_at_call 13; refine (SF.out _ H10.out.lw).mono ?_; rintro e w' ⟨rfl, rfl⟩)
            | fail)
          go_meet
          case rel => exact ⟨rfl, _, HRS, H10⟩
      · have hy' : (y == 1) = false := beq_eq_false_iff_ne.2 hy
        clear hy
        go_wp2
        go_meet
        case rel => exact ⟨rfl, S, hide rfl, HK⟩
    · go_wp2
      go_meet
      case rel => exact ⟨rfl, S, hide rfl, HK⟩
  case rest =>
    obtain ⟨rfl, S1, HS1, HK1⟩ := hcut
    obtain ⟨w11, rfl⟩ : ∃ x, x = wc := ⟨wc, rfl⟩
    clear HK hbel
    obtain ⟨b5, off5, AA, CC, rfl, hlt5, hcl, hCk, hCk2, hrow⟩ : ∃ b off, ∃ (AA : Option Addr) (CC : Nat), a = some ⟨b, off, none⟩ ∧ b < w.heap.size ∧ w.cell? ⟨b, off + p, none⟩ = some (.slice AA (zz.getD p []).length CC) ∧ (zz.getD p []).length ≤ CC ∧ CC ≤ maxLen ∧ IntRow w AA (zz.getD p []).length (zz.getD p []) := by
      rcases HR.out with h | ⟨b, off, A, C, h3, h4, h5, h6, h7, h8⟩
      · omega
      · exact ⟨b, off, A p, C p, h3, h4, h7 p hp, (h8 p hp).1, (h8 p hp).2.1, (h8 p hp).2.2⟩
    obtain ⟨zk, hzk⟩ : ∃ zk, zk = zz.getD p [] := ⟨_, rfl⟩
    rw [← hzk] at hcl hCk hrow
    clear hzk
    unfold maxLen at hCk2
    obtain ⟨n, hn⟩ : ∃ n, n = zk.length := ⟨_, rfl⟩
    rw [← hn] at hcl hCk hrow
    have HROW := hide hrow.split
    have HCL := hide hcl
    clear hrow hcl hn HR
    obtain ⟨W12, hW12⟩ : ∃ W, W = w11.alloc (.cells #[.int .i64 0, .int .i64 0, .int .i64 0] 37) := ⟨_, rfl⟩
    obtain ⟨X, hX⟩ : ∃ X, X = w11.heap.size := ⟨_, rfl⟩
    have hA12 : Below w11.heap.size w11 W12 := by rw [hW12]; exact (Below.refl _ _).alloc (Nat.le_refl _) _
    have HO12 : Hid (ObjAt W12 X 37 ([0, 0, 0].map (Value.int .i64))) := by rw [hW12, hX]; exact ObjAt.new _ _ _
    have hXl : w11.heap.size ≤ X := by omega
    have HA12 := hide hA12
    have hz11 := HK1.out.bel.size
    clear hA12
    go_upto_block 4 with (fail)
    rw [← hW12, ← hX]
    clear hW12 hX
    go_cut [] from 130 to 151 (fun wx => ∃ cs : List Int, cs.length = 3 ∧ Hid (ObjAt wx X 37 (cs.map (Value.int .i64))) ∧ Hid (Below w11.heap.size w11 wx))
    case first =>
      go_wp2
      go_loopw [21] (fun j ww => ∃ (i : Nat) (cs : List Int), j = .int .i64 (i : Int) ∧ i ≤ 3 ∧ i ≤ n ∧ cs.length = 3 ∧ Hid (ObjAt ww X 37 (cs.map (Value.int .i64))) ∧ Hid (Below w11.heap.size w11 ww)) (fun j _ => 10 - (intOf j).toNat)
      case atStart => exact ⟨0, [0, 0, 0], rfl, by omega, by omega, rfl, HO12, HA12⟩
      case round =>
        obtain ⟨wi, rfl⟩ : ∃ x, x = wr := ⟨wr, rfl⟩
        obtain ⟨i, cs, rfl, hi3, hin, hcs, HOi, HBi⟩ := hrel
        have hcl : wi.cell? ⟨b5, off5 + p, none⟩ = some (.slice AA n CC) := (HBi.out.cell (p := ⟨b5, off5 + p, none⟩) (show b5 < w11.heap.size by omega)).trans ((HK1.out.bel.cell (p := ⟨b5, off5 + p, none⟩) hlt5).trans HCL.out)
        by_cases g1 : i < n
        · by_cases g2 : i < 3
          · obtain ⟨b2, off2, rfl, y, hlt2, hx⟩ : ∃ b2 off2, AA = some ⟨b2, off2, none⟩ ∧ ∃ y, b2 < w.heap.size ∧ w.cell? ⟨b2, off2 + i, none⟩ = some (.int .i64 y) := by
              rcases HROW.out with h | ⟨b2, off2, h3, h4, _, _, h5⟩
              · omega
              · exact ⟨b2, off2, h3, _, h4, h5 i g1⟩
            have hxi : wi.cell? ⟨b2, off2 + i, none⟩ = some (.int .i64 y) := (HBi.out.cell (p := ⟨b2, off2 + i, none⟩) (show b2 < w11.heap.size by omega)).trans ((HK1.out.bel.cell (p := ⟨b2, off2 + i, none⟩) hlt2).trans hx)
            clear hx
            have hfr := HOi.out.free i
            have hce := HOi.out.cell (i := i) (v := .int .i64 (cs.getD i 0)) (by simp [List.getElem?_eq_getElem (show i < cs.length by omega), List.getD])
            go_wp2
            go_roundw
            case rel => exact ⟨i + 1, cs.set i y, by go_num, by omega, by omega, by simp [hcs], (by have q := HOi.out.set i (.int .i64 y); rw [set_map_intK] at q; exact hide q), hide (HBi.out.setCell (p := ⟨X, i, none⟩) hXl _)⟩
            case measure => (simp [intOf] <;> omega)
          · have g3 : i = 3 := by omega
            go_wp2
            go_meet
            case rel => exact ⟨cs, hcs, HOi, HBi⟩
        · go_wp2
          go_meet
          case rel => exact ⟨cs, hcs, HOi, HBi⟩
    case rest =>
      obtain ⟨cs, hcs, HO13, HB13⟩ := hcut
      obtain ⟨w13, rfl⟩ : ∃ x, x = wc := ⟨wc, rfl⟩
      obtain ⟨n1, u1, t1, rfl⟩ := map3K hcs
      have HK2 := hide (HK1.out.below HB13.out)
      clear HK1 HB13 HO12 HA12 hXl hz11 HROW HCL hlt5 hCk hCk2 hcs
      have hel := HK2.out.el m (by rw [HVL.out]; omega)
      have hzs : moreR [] (S.rs.take m) = S1.zs := by unfold LS.zs; rw [HS1.out, List.take_of_length_le (by rw [HMM.out]; exact Nat.le_refl _)]
      rw [hzs] at hel
      obtain ⟨x, hx⟩ : ∃ x, x = vs.getD m (.slice none 0 0) := ⟨_, rfl⟩
      have HXE := hide hx
      have hcx := HK2.out.dcell HVL.out (i := m) (by omega)
      rw [← hx] at hel hcx
      have HXX := hide hel
      have h16 : S1.zs.length ≤ 16 := okR_len _ _ (by simp) HK2.out.ok.recs
      have hdl := (HK2.out.dn.lt gd rfl).2
      have hXl3 := HO13.out.lt
      have HCS : Hid (∀ W', Below w13.heap.size w13 W' → W'.cell? ⟨gd, m, none⟩ = some x ∧ W'.cell? ⟨X, 0, none⟩ = some (.int .i64 n1) ∧ W'.cell? ⟨X, 1, none⟩ = some (.int .i64 u1) ∧ W'.cell? ⟨X, 2, none⟩ = some (.int .i64 t1)) := hide (fun W' hW => ⟨(hW.cell (p := ⟨gd, m, none⟩) hdl).trans hcx, (HO13.out.below hW).cell (i := 0) rfl, (HO13.out.below hW).cell (i := 1) rfl, (HO13.out.below hW).cell (i := 2) rfl⟩)
      have RS := hide (fun W (hW : Below w13.heap.size w13 W) => kaR n1 u1 t1 h16 (HK2.out.below hW) (HXX.out.below hW))
      obtain ⟨c, hc⟩ : ∃ c, c = spMoreE S1.zs n1 u1 t1 := ⟨_, rfl⟩
      rw [← hc] at RS
      have HC := hide hc
      have hrr := Below.refl w13.heap.size w13
      have KK0 := HCS.out _ hrr
      obtain ⟨m0, m1, m2, m3⟩ := KK0
      have KK0 := HCS.out _ hrr
      clear hel hzs hx hcx hc hdl hXl3
      have sw1 : IntKind.i64.wrap ((m : Int) + 1 - 1) = (m : Int) := by rw [IntWalk.i64_in _ (by omega)]; omega
      have sw2 : IntKind.i64.wrap (((m + 1 : Nat) : Int) - 1) = (m : Int) := by rw [IntWalk.i64_in _ (by omega)]; omega
      have sw3 : IntKind.i64.wrap (m : Int) = (m : Int) := by rw [IntWalk.i64_in _ (by omega)]
      have sb1 : (0 : Int) ≤ (m : Int) := by omega
      have sb2 : (m : Int) < (m : Int) + 1 := by omega
      have sb3 : (m : Int) < ((m + 1 : Nat) : Int) := by omega
      go_upto_region 29 with (fail)
      go_region_held3 (fun w' => w'.cell? ⟨gd, m, none⟩ = some x ∧ w'.cell? ⟨X, 0, none⟩ = some (.int .i64 n1) ∧ w'.cell? ⟨X, 1, none⟩ = some (.int .i64 u1) ∧ w'.cell? ⟨X, 2, none⟩ = some (.int .i64 t1)) (first | with_reducible assumption | (refine HCS.out _ ?_; go_grown) | go_keep)
        (first | (go_at_call 15; refine (RS.out _ (by go_grown)).mono ?_; rintro e5 w50 ⟨x', zs', rfl, hx', hz', hb50⟩; have hw50 : Below w13.heap.size w13 w50 := Below.trans (by go_grown) (Below.mono hb50 (by first | omega | (simp; done) | (simp; omega))); have KK := HCS.out _ hw50; have HXN := hide hx'; have HZN := hide hz'; clear hx' hz' hb50))
      have HK5 := hide (HK2.out.below hw50)
      obtain ⟨k0, k1, k2, k3⟩ := KK
      clear hrr KK0 m0 m1 m2 m3 sw1 sw2 sw3 HCS RS HK2 HXX HO13
      obtain ⟨e', he'⟩ : ∃ e', e' = toldE S1 n1 u1 t1 := ⟨_, rfl⟩
      have hms : S1.rs.length = m := by rw [HS1.out, HMM.out]
      have heq : e' = if c = 0 ∧ 30 < m + 1 then 4 else c := by rw [he', HC.out]; unfold toldE; rw [hms]
      have HE1 := hide he'
      have HE2 := hide heq
      clear he' heq hms
      obtain ⟨qb, hqb⟩ : ∃ qb, qb = decide (c = 0 ∧ 30 < m + 1) := ⟨_, rfl⟩
      have HQ := hide hqb
      clear hqb
      go_upto_region 30 with (fail)
      go_cut [176] from 170 to 175 (fun tx wx => tx = .bool qb ∧ wx = w50)
      case first =>
        by_cases hc0 : c = 0
        · by_cases h30 : 30 < m + 1
          · have q1 : (c == 0) = true := by rw [hc0]; rfl
            have q2 : decide ((30 : Int) < (m : Int) + 1) = true := by simp; omega
            have hE : qb = true := by rw [HQ.out]; exact decide_eq_true ⟨hc0, h30⟩
            have HE3 := hide hE
            clear hE hc0
            go_wp2
            go_meet
            case rel => exact ⟨by rw [HE3.out], rfl⟩
          · have q1 : (c == 0) = true := by rw [hc0]; rfl
            have q2 : decide ((30 : Int) < (m : Int) + 1) = false := by simp; omega
            have hE : qb = false := by rw [HQ.out]; exact decide_eq_false (by omega)
            have HE3 := hide hE
            clear hE hc0
            go_wp2
            go_meet
            case rel => exact ⟨by rw [HE3.out], rfl⟩
        · have q1 : (c == 0) = false := beq_eq_false_iff_ne.2 hc0
          have hE : qb = false := by rw [HQ.out]; exact decide_eq_false (fun h => hc0 h.1)
          have HE3 := hide hE
          clear hE hc0
          go_wp2
          go_meet
          case rel => exact ⟨by rw [HE3.out], rfl⟩
      case rest =>
       obtain ⟨rfl, hww⟩ := hcut
       have hww2 := hww.symm
       clear hww
       subst hww2
       go_upto_if 176 with (fail)
       go_cut [23] from 176 to 176 (fun tx wx => tx = .int .i64 e' ∧ wx = w50)
       case first =>
        cases hq : qb
        · have hE : e' = c := by
            rw [HE2.out, if_neg]
            have h := HQ.out
            rw [hq] at h
            exact of_decide_eq_false h.symm
          have HE3 := hide hE
          clear hE hq HQ
          go_wp2
          go_meet
          case rel => exact ⟨by rw [HE3.out], rfl⟩
        · have hE : e' = 4 := by
            rw [HE2.out, if_pos]
            have h := HQ.out
            rw [hq] at h
            exact of_decide_eq_true h.symm
          have HE3 := hide hE
          clear hE hq HQ
          go_wp2
          go_meet
          case rel => exact ⟨by rw [HE3.out], rfl⟩
       case rest =>
        obtain ⟨rfl, hww⟩ := hcut
        have hww2 := hww.symm
        clear hww
        subst hww2
        have BY := hide (lwBytes HK5.out.lw)
        have hb651 := HK5.out.ok.bytes_len
        obtain ⟨N0, hN0⟩ : ∃ N : Int, N = (S1.bytes.length : Int) := ⟨_, rfl⟩
        rw [← hN0] at BY
        have SP := hide (fun W (hW : KA w W b S1 v (.slice (some ⟨gd, 0, none⟩) (m + 1) cd) (.slice (some ⟨gm, 0, none⟩) (m + 1) cm) vs S.rs S.rs) => kaSpend n1 u1 t1 HT.out hW)
        have htold := spend_told HK5.out.ok n1 u1 t1
        have hsr := spend_rs HK5.out.ok n1 u1 t1
        have hok2 := HK5.out.ok.spend n1 u1 t1
        rw [← HE1.out] at htold
        obtain ⟨c2, hc2⟩ : ∃ c2, c2 = (S1.spend n1 u1 t1).2 := ⟨_, rfl⟩
        obtain ⟨S2, hS2⟩ : ∃ S2, S2 = (S1.spend n1 u1 t1).1 := ⟨_, rfl⟩
        rw [← hc2, ← hS2] at SP hsr
        rw [← hc2] at htold
        rw [← hS2] at hok2
        have HTD := hide htold
        have HSR := hide hsr
        have HN0 := hide hN0
        have h651 := hok2.bytes_len
        have ER := hide (fun (c n : Int) W (hB : Below w.heap.size w W) => error_any c n W (HT.out.er.below hB HT.out.er.pos))
        have n0 : 0 ≤ N0 ∧ N0 ≤ 651 := by omega
        clear htold hsr hc2 hS2 hok2 hN0 hb651
        go_wp2_with fail
        refine BY.out.mono ?_
        rintro e w' ⟨rfl, rfl⟩
        go_wp2_with fail
        refine (SP.out _ HK5.out).mono ?_
        rintro e w51 ⟨v2, rfl, hk51, hkk⟩
        have HK6 := hide hk51
        have HX6 := hide (HXN.out.kept hkk)
        clear hk51 hkk k0 k1 k2 k3 HK5 HXN BY SP
        go_wp2_with fail
        refine (ER.out c2 6 _ HK6.out.bel).mono ?_
        rintro e w52 ⟨rfl, hb52⟩
        have HK7 := hide (HK6.out.below hb52)
        have HX7 := hide (HX6.out.below hb52)
        clear hb52 HK6 HX6
        go_wp2_with fail
        refine (ER.out c2 e' _ HK7.out.bel).mono ?_
        rintro e w53 ⟨rfl, hb53⟩
        have HK8 := hide (HK7.out.below hb53)
        have HX8 := hide (HX7.out.below hb53)
        clear hb53 HK7 HX7
        go_upto_region 36 with (fail)
        go_cut [197] from 192 to 196 (fun tx wx => tx = .bool false ∧ wx = w53)
        case first =>
          by_cases h6 : c2 = 6
          · have q1 : (c2 == 6) = true := by rw [h6]; rfl
            clear h6
            go_wp2
            go_meet
            case rel => exact ⟨rfl, rfl⟩
          · have q1 : (c2 == 6) = false := beq_eq_false_iff_ne.2 h6
            have q2 : (c2 == e') = true := by
              rcases HTD.out with h | h
              · exact absurd h h6
              · rw [h]; simp
            clear h6
            go_wp2
            go_meet
            case rel => exact ⟨rfl, rfl⟩
        case rest =>
          obtain ⟨rfl, hww⟩ := hcut
          have hww2 := hww.symm
          clear hww
          subst hww2
          go_upto_if 199 with (fail)
          go_cut [15, 16] from 198 to 223 (fun dx mx wx => ∃ (dv' mv' : Value) (vs' : List Value), dx = dv' ∧ mx = mv' ∧ Hid (KA w wx b S2 v2 dv' mv' vs' S2.rs S2.rs))
          case first =>
            rcases HSR.out with ⟨hc, hrs, hm0, hby, hl30, htl⟩ | ⟨hc, hrs⟩
            · have q1 : (c2 == 0) = true := by rw [hc]; rfl
              have hzx : zs' = moreR [] (S.rs ++ [⟨n1, u1, t1⟩]) := by
                rw [HZN.out (HC.out.trans hm0), moreR_app, ← HS1.out]
                rfl
              have hx8 := HX8.out
              rw [hzx] at hx8
              have hrr : S2.rs = S.rs ++ [⟨n1, u1, t1⟩] := by rw [hrs, HS1.out]
              have hmk : marksR S2.rs = marksR S.rs ++ [(S2.bytes.length : Int)] := by
                rw [hrr, marksR_snoc, ← hrr]
                unfold LS.bytes
                rw [htl, List.append_nil]
              obtain ⟨N2, hN2⟩ : ∃ N : Int, N = (S2.bytes.length : Int) := ⟨_, rfl⟩
              rw [← hN2] at hmk
              have n2 : 0 ≤ N2 ∧ N2 ≤ 651 ∧ N0 + 2 ≤ N2 := by have := HN0.out; omega
              have q3 : decide (N2 < N0 + 2) = false := by simp; omega
              obtain ⟨n20, n21, n22⟩ := n2
              obtain ⟨n00, n01⟩ := n0
              have BY2 := hide (fun W (hW : LW w W b S2) => lwBytes hW)
              rw [← hN2] at BY2
              have hdn : w53.ownsRow w.heap.size 31 1 (.slice (some ⟨gd, 0, none⟩) (m + 1) cd) (m + 1) vs := by have h := HK8.out.dn; rwa [HVL.out] at h
              obtain ⟨xa, xn, xc, rfl⟩ : ∃ a n c, x' = .slice a n c := by
                rcases hx8.ps.2 with ⟨_, a, c, h⟩ | ⟨g, off, c, h, _⟩
                · exact ⟨_, _, _, h⟩
                · exact ⟨_, _, _, h⟩
              obtain ⟨i1, hi1, hy0, hy1, hy2⟩ := info_parts Tryz.infoSl
              obtain ⟨i0, hi0, hz0, hz1, hz2⟩ := info_parts Tryz.infoInt
              have Hi0 := hide hi0
              have Hz0 := hide hz0
              have Hz1 := hide hz1
              have Hz2 := hide hz2
              have Hi1 := hide hi1
              have Hy0 := hide hy0
              have Hy1 := hide hy1
              have Hy2 := hide hy2
              have HDN := hide hdn
              have HX9 := hide hx8
              have HMK := hide hmk
              have HRR := hide hrr
              have hz53 := HK8.out.bel.size
              clear hc hzx hx8 hrr hmk hN2 hdn hi1 hy0 hy1 hy2 hi0 hz0 hz1 hz2 hrs hm0 hby hl30 htl HX8 HSR HTD HZN
              go_upto_region 41 with (first | (go_at_call 12; refine (BY2.out _ HK8.out.lw).mono ?_; rintro e w' ⟨rfl, rfl⟩) | fail)
              go_wp2_with (first | (at_builtin; refine wpList_append_lies _ rfl _ _ 36 rfl w.heap.size 31 i1 (.slice none 0 0) 1 24 Tryz.underlying36 Hi1.out Hy0.out Hy1.out Hy2.out rfl (by decide) _ _ _ rfl (HDN.out.alloc _) ⟨w53.heap.size, 0, none⟩ 1 1 [.slice xa xn xc] rfl rfl ?c1 ?c2 ?c0 ?c3 ?c4 ?c5 _ rfl ?_))
              case c1 =>
                intro j u hj
                match j, hj with
                | 0, hj => simp at hj; subst hj; simp [Addr.add]
              case c2 => intro u hu; simp at hu; subst hu; rfl
              case c0 => decide
              case c3 => unfold maxLen; omega
              case c4 => omega
              case c5 => simp; omega
              intro g1 cap1 w54 hown54 hg54 hat54 hlt54
              have hA54 : Below w53.heap.size w53 (w53.alloc (.cells #[.slice xa xn xc] 31)) := (Below.refl _ _).alloc (Nat.le_refl _) _
              have hK54 := (HK8.out.below hA54).pushD (r := ⟨n1, u1, t1⟩) (HX9.out.below hA54) hg54 rfl (dv' := .slice (some ⟨g1, 0, none⟩) (m + 1 + 1) cap1) (by
                have e : (vs ++ [Value.slice xa xn xc]).length = m + 1 + 1 := by simp [HVL.out]
                rw [e]; exact hown54) (fun g hg => by
                rw [show (Value.slice (some ⟨g1, 0, none⟩) (m + 1 + 1) cap1).ownBlock = some g1 from rfl] at hg
                obtain rfl := Option.some.inj hg
                rcases hat54 with h | h
                · exact .inl h
                · exact .inr (by simp; omega))
              rw [← HRR.out] at hK54
              have HK54 := hide hK54
              clear hown54 hg54 hat54 hA54 hK54 HDN HX9 HK8
              have hmn : w54.ownsRow w.heap.size 3 1 (.slice (some ⟨gm, 0, none⟩) (m + 1) cm) (m + 1) ((marksR S.rs).map (Value.int .i64)) := by
                have h := HK54.out.mr
                have e : (marksR S.rs).length = m + 1 := by rw [marksR_len, ← HMM.out]
                rwa [e] at h
              have HMN := hide hmn
              have hz54 := HK54.out.bel.size
              clear hmn
              go_wp2_with fail
              refine (BY2.out _ HK54.out.lw).mono ?_
              rintro e w' ⟨rfl, rfl⟩
              go_wp2_with (first | (at_builtin; refine wpList_append_lies _ rfl _ _ 23 rfl w.heap.size 3 i0 (.int .i64 0) 1 8 Tryz.underlying23 Hi0.out Hz0.out Hz1.out Hz2.out rfl (by decide) _ _ _ rfl (HMN.out.alloc _) ⟨w54.heap.size, 0, none⟩ 1 1 [.int .i64 N2] rfl rfl ?d1 ?d2 ?d0 ?d3 ?d4 ?d5 _ rfl ?_))
              case d1 =>
                intro j u hj
                match j, hj with
                | 0, hj => simp at hj; subst hj; simp [Addr.add]
              case d2 => intro u hu; simp at hu; subst hu; rfl
              case d0 => decide
              case d3 => unfold maxLen; omega
              case d4 => omega
              case d5 => simp; omega
              intro g2 cap2' w55 hown55 hg55 hat55 hlt55
              have hA55 : Below w54.heap.size w54 (w54.alloc (.cells #[.int .i64 N2] 3)) := (Below.refl _ _).alloc (Nat.le_refl _) _
              have hK55 := (HK54.out.below hA55).pushM hg55 (rm' := S2.rs) (mv' := .slice (some ⟨g2, 0, none⟩) (m + 1 + 1) cap2') (by
                have e : (marksR S2.rs).length = m + 1 + 1 := by rw [HMK.out, List.length_append, marksR_len, ← HMM.out]; rfl
                rw [e, HMK.out, List.map_append]; exact hown55) (fun g hg => by
                rw [show (Value.slice (some ⟨g2, 0, none⟩) (m + 1 + 1) cap2').ownBlock = some g2 from rfl] at hg
                obtain rfl := Option.some.inj hg
                rcases hat55 with h | h
                · exact .inl h
                · exact .inr (by simp; omega))
              have HK55 := hide hK55
              clear hown55 hg55 hat55 hA55 hK55 HMN HK54
              go_wp2
              go_meet
              case rel => exact ⟨_, _, _, rfl, rfl, HK55⟩
            · have q1 : (c2 == 0) = false := beq_eq_false_iff_ne.2 hc
              have hrr : S2.rs = S.rs := hrs.trans HS1.out
              have HRR := hide hrr
              clear hc hrs hrr
              go_wp2
              go_meet
              case rel => exact ⟨_, _, vs, rfl, rfl, by rw [HRR.out]; exact HK8⟩
          case rest =>
            obtain ⟨dv2, mv2, vs2, rfl, rfl, HK9⟩ := hcut
            obtain ⟨w60, rfl⟩ : ∃ x, x = wc := ⟨wc, rfl⟩
            obtain ⟨gd2, cd2, gm2, cm2, rfl, rfl, f1', f2', f3', f4', f5', f6', f7', f8'⟩ := HK9.out.form
            have hvl := HK9.out.len
            have hml := marksR_len S2.rs
            have hS30' := HK9.out.ok.len
            obtain ⟨m2, hmm2⟩ : ∃ m2, m2 = S2.rs.length := ⟨_, rfl⟩
            have hvl2 : vs2.length = m2 + 1 := by omega
            have hml2 : (marksR S2.rs).length = m2 + 1 := by omega
            rw [hvl2] at HK9 f1' ⊢
            rw [hml2] at HK9 f2' ⊢
            have hm30' : m2 ≤ 30 := by omega
            have hel := HK9.out.el m2 (by omega)
            have hzs : moreR [] (S2.rs.take m2) = S2.zs := by unfold LS.zs; rw [List.take_of_length_le (by omega)]
            rw [hzs] at hel
            obtain ⟨y, hy⟩ : ∃ y, y = vs2.getD m2 (.slice none 0 0) := ⟨_, rfl⟩
            have hcy := HK9.out.dcell hvl2 (i := m2) (by omega)
            rw [← hy] at hel hcy
            have hdl := (HK9.out.dn.lt gd2 rfl).2
            have HPY := hide hel.ps
            have HCY : Hid (∀ W', Below w60.heap.size w60 W' → W'.cell? ⟨gd2, m2, none⟩ = some y) := hide (fun W' hW => (hW.cell (p := ⟨gd2, m2, none⟩) hdl).trans hcy)
            have AL := hide (fun W (hW : Below w60.heap.size w60 W) => kaAll (HK9.out.below hW))
            have SM := hide (fun W W2 v9 (h1 : PSl W v9 S2.zs) (h2 : Below W.heap.size W W2) (h3 : Below w60.heap.size w60 W2) => sameSpent W2 (h1.below h2) (HPY.out.below h3))
            obtain ⟨Z, hZ⟩ : ∃ Z, Z = S2.zs := ⟨_, rfl⟩
            rw [← hZ] at AL SM
            have hrr := Below.refl w60.heap.size w60
            have KK0 := HCY.out _ hrr
            have sw1 : IntKind.i64.wrap ((m2 : Int) + 1 - 1) = (m2 : Int) := by rw [IntWalk.i64_in _ (by omega)]; omega
            have sw3 : IntKind.i64.wrap (m2 : Int) = (m2 : Int) := by rw [IntWalk.i64_in _ (by omega)]
            have sb1 : (0 : Int) ≤ (m2 : Int) := by omega
            have sb2 : (m2 : Int) < (m2 : Int) + 1 := by omega
            clear hvl hml hmm2 hvl2 hml2 hel hzs hy hcy hdl hZ f7' f8' f1' f2' f3' f4' f5' f6' hS30'
            go_upto_region 43 with (fail)
            go_region_held3 (fun w' => w'.cell? ⟨gd2, m2, none⟩ = some y) (first | with_reducible assumption | (refine HCY.out _ ?_; go_grown) | go_keep)
              (first
                | (go_at_call 11; refine (AL.out _ (by go_grown)).mono ?_; rintro e5 w61 ⟨v9, rfl, hp9, hb61⟩; have hw61 : Below w60.heap.size w60 w61 := Below.trans (by go_grown) (Below.mono hb61 (by first | omega | (simp; done) | (simp; omega))); have KK := HCY.out _ hw61; have HP9 := hide hp9; clear hp9 hb61)
                | (go_at_call 17; refine (SM.out _ _ _ HP9.out (by go_grown) (by go_grown)).mono ?_; rintro e6 w62 ⟨rfl, hb62⟩; have hz61 := hw61.size; have hw62 : Below w60.heap.size w60 w62 := Below.trans (by go_grown) (Below.mono hb62 (by first | omega | (simp; done) | (simp; omega))); have KK2 := HCY.out _ hw62; clear hb62))
            have hXY : Below w60.heap.size w60 w62 := hw62
            have HK10 := hide (HK9.out.below hXY)
            clear hrr KK0 KK KK2 hw61 hw62 hXY AL SM HCY
            go_wp2
            exact hend.out _ _ _ _ _ _ _ _ _ _ _ _ _ _ _ _ _ _ _ _ _ _ _ _ _ _ _ _ _ _ _ _ _ _ _ _ _ _ _ _ _ _ _ _ _ _ _ _ _ _ _ _ _ _ _ _ _ _ _ _ _ _ _ _ _ _ _ _ _ _ _ _ _ _ _ _ _ _ _ _ _ _ _ _ _ _ _ _ _ _ _ _ _ _ _ _ _ _ _ _ _ _ _ _ _ _ _ _ _ _ _ _ _ _ _ _ _ _ _ _ _ _ _ _ _ _ _ _ _ _ _ _ _ _ _ _ S2 v2 _ _ vs2 _ HK10
end Go.Proofs.YtjbpkmmpbhngbaaGreatDoor
