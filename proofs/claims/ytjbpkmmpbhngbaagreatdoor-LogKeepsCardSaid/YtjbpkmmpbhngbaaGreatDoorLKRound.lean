/- LogKeeps: a round. -/
import Derived.Test.YtjbpkmmpbhngbaaGreatDoorLKStep
import Derived.Deep.RegionHeldLaw
import Derived.Deep.RegionHeld3
import Derived.Deep.Cut
import Derived.IntWalk
import Derived.Deep.AppendLies
import Derived.Deep.DeepCutAuto
import Derived.Deep.CutBlock
namespace Go.Proofs.YtjbpkmmpbhngbaaGreatDoor
open Go.RowKit

set_option linter.unusedVariables false
set_option maxRecDepth 1000000 in
set_option maxHeartbeats 32000000 in
theorem lkRound (w w9 : World) (b p q : Nat) (a : Option Addr) (len cap : Nat) (zz : List (List Int)) (a2 : Option Addr) (len2 cap2 : Nat) (ss : List Int) (a3 : Option Addr) (len3 cap3 : Nat) (ff : List Int) (a4 : Option Addr) (len4 cap4 : Nat) (kk : List Int) (S : LS) (v dv mv : Value) (vs : List Value) (Qx : Exit → Act → World → Prop)
    (c4 c5 c6 c7 c8 c9 c10 c11 c12 c13 c19 c20 c21 c22 c23 c24 c25 c26 c27 c28 c29 c30 c31 c32 c33 c34 c35 c36 c37 c38 c39 c40 c41 c42 c43 c44 c45 c46 c47 c48 c49 c50 c51 c52 c53 c54 c55 c56 c57 c58 c59 c60 c61 c62 c63 c64 c65 c66 c67 c68 c69 c70 c71 c72 c73 c74 c75 c76 c77 c78 c79 c80 c81 c82 c83 c84 c85 c86 c87 c88 c89 c90 c91 c92 c93 c94 c95 c96 c97 c98 c99 c100 c101 c102 c103 c104 c105 c106 c107 c108 c109 c110 c111 c112 c113 c114 c115 c116 c117 c118 c119 c120 c121 c122 c123 c124 c125 c126 c127 c128 c129 c130 c131 c132 c133 c134 c135 c136 c137 c138 c139 c140 c141 c142 c143 c144 c145 c146 c147 c148 c149 c150 c151 c152 c153 c154 c155 c156 c157 c158 c159 c160 c161 c162 c163 c164 c165 c166 c167 c168 c169 c170 c171 c172 c173 c174 c175 c176 c177 c178 c179 c180 c181 c182 c183 c184 c185 c186 c187 c188 c189 c190 c191 c192 c193 c194 c195 c196 c197 c198 c199 c200 c201 c202 c203 c204 c205 c206 c207 c208 c209 c210 c211 c212 c213 c214 c215 c216 c217 c218 c219 c220 c221 c222 c223 c224 c225 c226 c227 c228 c229 c230 c231 c232 c233 c234 c235 c236 c237 c238 c239 c240 c241 c242 c243 c244 c245 c246 c247 c248 c249 c250 c251 c252 c253 c254 c255 c256 c257 c258 c259 c260 c261 c262 c263 c264 c265 c266 c267 c268 c269 c270 c271 c272 c273 c274 c275 c276 c277 c278 c279 c280 c281 c282 c283 c284 c285 c286 c287 c288 c289 c290 c291 c292 c293 c294 c295 c296 c297 c298 c299 c300 c301 : Value)
    (hm : len ≤ 9223372036854775807) (hm2 : len2 ≤ 9223372036854775807) (hm3 : len3 ≤ 9223372036854775807) (hm4 : len4 ≤ 9223372036854775807) (HT : Hid (Tabs w)) (HR : Hid (MatHid w a len zz)) (HR2 : Hid (RowHid w a2 len2 ss)) (HR3 : Hid (RowHid w a3 len3 ff)) (HR4 : Hid (RowHid w a4 len4 kk))
    (W3 : Hid (∀ n ∈ ff, (Lit.int .i64 n).wf = true)) (W4 : Hid (∀ n ∈ kk, (Lit.int .i64 n).wf = true)) (hp : p ≤ len) (h1 : q ≤ len3) (h2 : q < 4)
    (HK : Hid (KA w w9 b S v dv mv vs S.rs S.rs))
    (hend : Hid (∀ (v8 v19 v20 v21 v22 v23 v24 v25 v26 v27 v28 v29 v30 v31 v32 v33 v77 v78 v79 v80 v81 v82 v83 v84 v85 v86 v87 v88 v89 v90 v91 v92 v93 v94 v95 v96 v97 v98 v99 v100 v101 v102 v103 v104 v105 v106 v107 v108 v109 v110 v111 v112 v113 v114 v115 v116 v117 v118 v119 v120 v121 v122 v123 v124 v125 v126 v127 v128 v129 v130 v131 v132 v133 v134 v135 v136 v137 v138 v139 v140 v141 v142 v143 v144 v145 v146 v147 v148 v149 v150 v151 v152 v153 v154 v155 v156 v157 v158 v159 v160 v161 v162 v163 v164 v165 v166 v167 v168 v169 v170 v171 v172 v173 v174 v175 v176 v177 v178 v179 v180 v181 v182 v183 v184 v185 v186 v187 v188 v189 v190 v191 v192 v193 v194 v195 v196 v197 v198 v199 v200 v201 v202 v203 v204 v205 v206 v207 v208 v209 v210 v211 v212 v213 v214 v215 v216 v217 v218 v219 v220 v221 v222 v223 v224 v225 v226 v227 v228 v229 v230 v231 v232 v233 v234 v235 v236 v237 v238 v239 v240 v241 v242 v243 v244 v245 v246 v247 v248 v249 v250 v251 v252 v253 v254 v255 v256 v257 v258 v259 v260 v261 v262 v263 v264 v265 v266 v267 v268 v269 v270 v271 v272 v273 v274 v275 v276 v277 v278 v279 v280 v281 v282 v283 v284 v285 v286 v287 v288 v289 v290 v291 v292 v293 v294 v295 v296 v297 v298 v299 v300 v301 : Value) (p' : Nat) (S' : LS) (v' dv' mv' : Value) (vs' : List Value) (w' : World), p' ≤ len → Hid (KA w w' b S' v' dv' mv' vs' S'.rs S'.rs) → Qx Exit.normal { tmps := List.toArray ((.slice a len cap : Value) :: (.slice a2 len2 cap2 : Value) :: (.slice a3 len3 cap3 : Value) :: (.slice a4 len4 cap4 : Value) :: c4 :: c5 :: c6 :: c7 :: v8 :: c9 :: c10 :: c11 :: c12 :: c13 :: (.pointer (some ⟨b, 0, none⟩) : Value) :: dv' :: mv' :: (.int .i64 (p' : Int) : Value) :: (.int .i64 ((q : Int) + 1) : Value) :: v19 :: v20 :: v21 :: v22 :: v23 :: v24 :: v25 :: v26 :: v27 :: v28 :: v29 :: v30 :: v31 :: v32 :: v33 :: c34 :: c35 :: c36 :: c37 :: c38 :: c39 :: c40 :: c41 :: c42 :: c43 :: c44 :: c45 :: c46 :: c47 :: c48 :: c49 :: c50 :: c51 :: c52 :: c53 :: c54 :: c55 :: c56 :: c57 :: c58 :: c59 :: c60 :: c61 :: c62 :: c63 :: c64 :: c65 :: c66 :: c67 :: c68 :: c69 :: c70 :: c71 :: c72 :: c73 :: c74 :: c75 :: c76 :: v77 :: v78 :: v79 :: v80 :: v81 :: v82 :: v83 :: v84 :: v85 :: v86 :: v87 :: v88 :: v89 :: v90 :: v91 :: v92 :: v93 :: v94 :: v95 :: v96 :: v97 :: v98 :: v99 :: v100 :: v101 :: v102 :: v103 :: v104 :: v105 :: v106 :: v107 :: v108 :: v109 :: v110 :: v111 :: v112 :: v113 :: v114 :: v115 :: v116 :: v117 :: v118 :: v119 :: v120 :: v121 :: v122 :: v123 :: v124 :: v125 :: v126 :: v127 :: v128 :: v129 :: v130 :: v131 :: v132 :: v133 :: v134 :: v135 :: v136 :: v137 :: v138 :: v139 :: v140 :: v141 :: v142 :: v143 :: v144 :: v145 :: v146 :: v147 :: v148 :: v149 :: v150 :: v151 :: v152 :: v153 :: v154 :: v155 :: v156 :: v157 :: v158 :: v159 :: v160 :: v161 :: v162 :: v163 :: v164 :: v165 :: v166 :: v167 :: v168 :: v169 :: v170 :: v171 :: v172 :: v173 :: v174 :: v175 :: v176 :: v177 :: v178 :: v179 :: v180 :: v181 :: v182 :: v183 :: v184 :: v185 :: v186 :: v187 :: v188 :: v189 :: v190 :: v191 :: v192 :: v193 :: v194 :: v195 :: v196 :: v197 :: v198 :: v199 :: v200 :: v201 :: v202 :: v203 :: v204 :: v205 :: v206 :: v207 :: v208 :: v209 :: v210 :: v211 :: v212 :: v213 :: v214 :: v215 :: v216 :: v217 :: v218 :: v219 :: v220 :: v221 :: v222 :: v223 :: v224 :: v225 :: v226 :: v227 :: v228 :: v229 :: v230 :: v231 :: v232 :: v233 :: v234 :: v235 :: v236 :: v237 :: v238 :: v239 :: v240 :: v241 :: v242 :: v243 :: v244 :: v245 :: v246 :: v247 :: v248 :: v249 :: v250 :: v251 :: v252 :: v253 :: v254 :: v255 :: v256 :: v257 :: v258 :: v259 :: v260 :: v261 :: v262 :: v263 :: v264 :: v265 :: v266 :: v267 :: v268 :: v269 :: v270 :: v271 :: v272 :: v273 :: v274 :: v275 :: v276 :: v277 :: v278 :: v279 :: v280 :: v281 :: v282 :: v283 :: v284 :: v285 :: v286 :: v287 :: v288 :: v289 :: v290 :: v291 :: v292 :: v293 :: v294 :: v295 :: v296 :: v297 :: v298 :: v299 :: v300 :: v301 :: List.nil), defers := [] } w')) :
    Code.wp Tryz.prog lkBody1 Qx { tmps := List.toArray ((.slice a len cap : Value) :: (.slice a2 len2 cap2 : Value) :: (.slice a3 len3 cap3 : Value) :: (.slice a4 len4 cap4 : Value) :: c4 :: c5 :: c6 :: c7 :: c8 :: c9 :: c10 :: c11 :: c12 :: c13 :: (.pointer (some ⟨b, 0, none⟩) : Value) :: dv :: mv :: (.int .i64 (p : Int) : Value) :: (.int .i64 (q : Int) : Value) :: c19 :: c20 :: c21 :: c22 :: c23 :: c24 :: c25 :: c26 :: c27 :: c28 :: c29 :: c30 :: c31 :: c32 :: c33 :: c34 :: c35 :: c36 :: c37 :: c38 :: c39 :: c40 :: c41 :: c42 :: c43 :: c44 :: c45 :: c46 :: c47 :: c48 :: c49 :: c50 :: c51 :: c52 :: c53 :: c54 :: c55 :: c56 :: c57 :: c58 :: c59 :: c60 :: c61 :: c62 :: c63 :: c64 :: c65 :: c66 :: c67 :: c68 :: c69 :: c70 :: c71 :: c72 :: c73 :: c74 :: c75 :: c76 :: c77 :: c78 :: c79 :: c80 :: c81 :: c82 :: c83 :: c84 :: c85 :: c86 :: c87 :: c88 :: c89 :: c90 :: c91 :: c92 :: c93 :: c94 :: c95 :: c96 :: c97 :: c98 :: c99 :: c100 :: c101 :: c102 :: c103 :: c104 :: c105 :: c106 :: c107 :: c108 :: c109 :: c110 :: c111 :: c112 :: c113 :: c114 :: c115 :: c116 :: c117 :: c118 :: c119 :: c120 :: c121 :: c122 :: c123 :: c124 :: c125 :: c126 :: c127 :: c128 :: c129 :: c130 :: c131 :: c132 :: c133 :: c134 :: c135 :: c136 :: c137 :: c138 :: c139 :: c140 :: c141 :: c142 :: c143 :: c144 :: c145 :: c146 :: c147 :: c148 :: c149 :: c150 :: c151 :: c152 :: c153 :: c154 :: c155 :: c156 :: c157 :: c158 :: c159 :: c160 :: c161 :: c162 :: c163 :: c164 :: c165 :: c166 :: c167 :: c168 :: c169 :: c170 :: c171 :: c172 :: c173 :: c174 :: c175 :: c176 :: c177 :: c178 :: c179 :: c180 :: c181 :: c182 :: c183 :: c184 :: c185 :: c186 :: c187 :: c188 :: c189 :: c190 :: c191 :: c192 :: c193 :: c194 :: c195 :: c196 :: c197 :: c198 :: c199 :: c200 :: c201 :: c202 :: c203 :: c204 :: c205 :: c206 :: c207 :: c208 :: c209 :: c210 :: c211 :: c212 :: c213 :: c214 :: c215 :: c216 :: c217 :: c218 :: c219 :: c220 :: c221 :: c222 :: c223 :: c224 :: c225 :: c226 :: c227 :: c228 :: c229 :: c230 :: c231 :: c232 :: c233 :: c234 :: c235 :: c236 :: c237 :: c238 :: c239 :: c240 :: c241 :: c242 :: c243 :: c244 :: c245 :: c246 :: c247 :: c248 :: c249 :: c250 :: c251 :: c252 :: c253 :: c254 :: c255 :: c256 :: c257 :: c258 :: c259 :: c260 :: c261 :: c262 :: c263 :: c264 :: c265 :: c266 :: c267 :: c268 :: c269 :: c270 :: c271 :: c272 :: c273 :: c274 :: c275 :: c276 :: c277 :: c278 :: c279 :: c280 :: c281 :: c282 :: c283 :: c284 :: c285 :: c286 :: c287 :: c288 :: c289 :: c290 :: c291 :: c292 :: c293 :: c294 :: c295 :: c296 :: c297 :: c298 :: c299 :: c300 :: c301 :: List.nil), defers := [] } w9 := by
  conv => arg 2; whnf
  have hbel := HK.out.bel
  have t4 : decide ((q : Int) < 4) = true := by simp; omega
  have t5 : decide ((q : Int) ≤ (len3 : Int)) = true := by simp; omega
  go_upto_if 90 with (fail)
  go_cut [] from 85 to 96 (fun wx => ∃ S1 : LS, Hid (S1.rs = S.rs) ∧ Hid (KA w wx b S1 v dv mv vs S.rs S.rs))
  case first =>
    by_cases h3 : q < len3
    · obtain ⟨b3, off3, rfl, hlt3, hc3⟩ : ∃ b off, a3 = some ⟨b, off, none⟩ ∧ b < w.heap.size ∧ w.cell? ⟨b, off + q, none⟩ = some (.int .i64 (ff.getD q 0)) := by
        rcases HR3.out with h | ⟨b, off, h4, h5, _, _, h6⟩
        · omega
        · exact ⟨b, off, h4, h5, h6 q h3⟩
      have hc9 := (hbel.cell (p := ⟨b3, off3 + q, none⟩) hlt3).trans hc3
      have FL := hide (kaFail (wfK W3.out q) (wfK_le (wfK W3.out q)).2 HK.out)
      clear hc3
      go_wp2_with fail
      refine FL.out.mono ?_
      rintro e w10 ⟨⟨r10, rfl⟩, h10⟩
      go_wp2
      go_meet
      case rel => exact ⟨S.fail (ff.getD q 0), hide rfl, hide h10⟩
    · go_wp2
      go_meet
      case rel => exact ⟨_, hide rfl, HK⟩
  case rest =>
    obtain ⟨S1, HS1, HK1⟩ := hcut
    obtain ⟨w11, rfl⟩ : ∃ x, x = wc := ⟨wc, rfl⟩
    rw [← HS1.out] at HK1
    clear HK hbel HS1
    go_upto_block 2 with (fail)
    go_cut [15, 16, 17] from 97 to 223 (fun dx mx px wx => ∃ (dv' mv' : Value) (p' : Nat) (S' : LS) (v' : Value) (vs' : List Value), dx = dv' ∧ mx = mv' ∧ px = .int .i64 (p' : Int) ∧ p' ≤ len ∧ Hid (KA w wx b S' v' dv' mv' vs' S'.rs S'.rs))
    case first =>
      go_wp2
      go_loopw [15, 16, 17, 19] (fun dx mx px kx wr => ∃ (dv' mv' : Value) (p' k : Nat) (S' : LS) (v' : Value) (vs' : List Value), dx = dv' ∧ mx = mv' ∧ px = .int .i64 (p' : Int) ∧ kx = .int .i64 (k : Int) ∧ p' ≤ len ∧ k ≤ 12 ∧ Hid (KA w wr b S' v' dv' mv' vs' S'.rs S'.rs)) (fun _ _ _ kx _ => 12 - (intOf kx).toNat)
      case atStart => exact ⟨_, _, p, 0, S1, v, vs, rfl, rfl, rfl, rfl, hp, by omega, HK1⟩
      case round =>
        clear HK1
        obtain ⟨dv1, mv1, p1, k, S2, v1, vs1, rfl, rfl, rfl, rfl, hp1, hk, HK2⟩ := hrel
        obtain ⟨w12, rfl⟩ : ∃ x, x = wr := ⟨wr, rfl⟩
        by_cases g1 : k < 12
        · by_cases g2 : p1 < len
          · refine lkStep w w12 b p1 k a len cap zz a2 len2 cap2 ss S2 v1 _ _ vs1 _ _ _ _ _ _ _ _ _ _ _ _ _ _ _ _ _ _ _ _ _ _ _ _ _ _ _ _ _ _ _ _ _ _ _ _ _ _ _ _ _ _ _ _ _ _ _ _ _ _ _ _ _ _ _ _ _ _ _ _ _ _ _ _ _ _ _ _ _ _ _ _ _ _ _ _ _ _ _ _ _ _ _ _ _ _ _ _ _ _ _ _ _ _ _ _ _ _ _ _ _ _ _ _ _ _ _ _ _ _ _ _ _ _ _ _ _ _ _ _ _ _ _ _ _ _ _ _ _ _ _ _ _ _ _ _ _ _ _ _ _ _ _ _ _ _ _ _ _ _ _ _ _ _ _ _ _ _ _ _ _ _ _ _ _ _ _ _ _ _ _ _ _ _ _ _ _ _ _ _ _ _ _ _ _ _ _ _ _ _ _ _ _ _ _ _ _ _ _ _ _ _ _ _ _ _ _ _ _ _ _ _ _ _ _ _ _ _ _ _ _ _ _ _ _ _ _ _ _ _ _ _ _ _ _ _ _ _ _ _ _ _ _ _ _ _ _ _ _ _ _ _ _ _ _ _ _ _ _ _ _ _ _ _ _ _ _ _ _ _ _ _ _ _ _ _ _ _ _ _ _ _ _ _ _ _ _ _ _ _ _ _ _ _ _ _ hm hm2 HT HR HR2 g2 g1 HK2 (hide ?_)
            intro v8 v20 v21 v22 v23 v24 v25 v26 v27 v97 v98 v99 v100 v101 v102 v103 v104 v105 v106 v107 v108 v109 v110 v111 v112 v113 v114 v115 v116 v117 v118 v119 v120 v121 v122 v123 v124 v125 v126 v127 v128 v129 v130 v131 v132 v133 v134 v135 v136 v137 v138 v139 v140 v141 v142 v143 v144 v145 v146 v147 v148 v149 v150 v151 v152 v153 v154 v155 v156 v157 v158 v159 v160 v161 v162 v163 v164 v165 v166 v167 v168 v169 v170 v171 v172 v173 v174 v175 v176 v177 v178 v179 v180 v181 v182 v183 v184 v185 v186 v187 v188 v189 v190 v191 v192 v193 v194 v195 v196 v197 v198 v199 v200 v201 v202 v203 v204 v205 v206 v207 v208 v209 v210 v211 v212 v213 v214 v215 v216 v217 v218 v219 v220 v221 v222 v223 S' v' dv' mv' vs' w' hk'
            go_roundw
            case rel => exact ⟨_, _, _, _, _, _, _, _, _, _, _, _, _, _, _, _, _, _, _, _, _, _, _, _, _, _, _, _, _, _, _, _, _, _, _, _, _, _, _, _, _, _, _, _, _, _, _, _, _, _, _, _, _, _, _, _, _, _, _, _, _, _, _, _, _, _, _, _, _, _, _, _, _, _, _, _, _, _, _, _, _, _, _, _, _, _, _, _, _, _, _, _, _, _, _, _, _, _, _, _, _, _, _, _, _, _, _, _, _, _, _, _, _, _, _, _, _, _, _, _, _, _, _, _, _, _, _, _, _, _, _, _, _, _, _, _, _, _, _, _, ⟨dv', mv', p1 + 1, k + 1, S', v', vs', rfl, rfl, rfl, rfl, by omega, by omega, hk'⟩, rfl⟩
            case measure => (simp [intOf] <;> omega)
          · go_wp2
            go_meet
            case rel => exact ⟨_, _, p1, S2, v1, vs1, rfl, rfl, rfl, hp1, HK2⟩
        · go_wp2
          go_meet
          case rel => exact ⟨_, _, p1, S2, v1, vs1, rfl, rfl, rfl, hp1, HK2⟩
    case rest =>
      obtain ⟨dv1, mv1, p1, S2, v1, vs1, rfl, rfl, rfl, hp1, HK2⟩ := hcut
      obtain ⟨w12, rfl⟩ : ∃ x, x = wc := ⟨wc, rfl⟩
      clear HK1
      obtain ⟨gd, cd, gm, cm, rfl, rfl, f1, f2, f3, f4, f5, f6, f7, f8⟩ := HK2.out.form
      have hvl := HK2.out.len
      have hml := marksR_len S2.rs
      have hS30 := HK2.out.ok.len
      obtain ⟨m, hmm⟩ : ∃ m, m = S2.rs.length := ⟨_, rfl⟩
      have hvl2 : vs1.length = m + 1 := by omega
      have hml2 : (marksR S2.rs).length = m + 1 := by omega
      rw [hvl2] at HK2 f1 ⊢
      rw [hml2] at HK2 f2 ⊢
      have hm30 : m ≤ 30 := by omega
      have HMM := hide hmm
      have HVL := hide hvl2
      have HML := hide hml2
      unfold maxLen at f3 f4
      have hbel := HK2.out.bel
      clear f5 f6 f7 f8 hmm hvl2 hml2 hvl hml hS30 HR HR2 HR3 W3
      go_upto_if 227 with (fail)
      go_cut [28] from 224 to 231 (fun kx wx => ∃ kp : Int, kx = .int .i64 kp ∧ Hid ((Lit.int .i64 kp).wf = true) ∧ wx = w12)
      case first =>
        by_cases h3 : q < len4
        · obtain ⟨b3, off3, rfl, hlt3, hc3⟩ : ∃ b off, a4 = some ⟨b, off, none⟩ ∧ b < w.heap.size ∧ w.cell? ⟨b, off + q, none⟩ = some (.int .i64 (kk.getD q 0)) := by
            rcases HR4.out with h | ⟨b, off, h4, h5, _, _, h6⟩
            · omega
            · exact ⟨b, off, h4, h5, h6 q h3⟩
          have hc9 := (hbel.cell (p := ⟨b3, off3 + q, none⟩) hlt3).trans hc3
          clear hc3
          go_wp2
          go_meet
          case rel => exact ⟨kk.getD q 0, rfl, hide (wfK W4.out q), rfl⟩
        · go_wp2
          go_meet
          case rel => exact ⟨0, rfl, hide rfl, rfl⟩
      case rest =>
        obtain ⟨kp, rfl, HW, hww⟩ := hcut
        have hww2 := hww.symm
        clear hww
        subst hww2
        have kb := wfK_le HW.out
        obtain ⟨kb0, kb1⟩ := kb
        have hb651 := HK2.out.ok.bytes_len
        have hsf := HK2.out.ok.saf
        have BY := hide (lwBytes HK2.out.lw)
        have SF := hide (lwSafe HK2.out.lw)
        have CR := hide (kaCrash HW.out HT.out HK2.out)
        have hhk := highK_eq HK2.out.ok kp
        obtain ⟨all, hall⟩ : ∃ x : Int, x = (S2.bytes.length : Int) := ⟨_, rfl⟩
        obtain ⟨was, hwas⟩ : ∃ x : Int, x = S2.safe := ⟨_, rfl⟩
        rw [← hall] at BY hhk hsf
        rw [← hwas] at SF hhk hsf
        obtain ⟨high, hhi⟩ : ∃ x : Int, x = S2.left_ kp := ⟨_, rfl⟩
        rw [← hhi] at hhk
        obtain ⟨qq, hqq⟩ : ∃ x, x = wholeR (S2.left_ kp).toNat S2.rs := ⟨_, rfl⟩
        have hq30 : qq ≤ m := by rw [hqq, HMM.out]; exact wholeR_le _ _
        have hok2 := HK2.out.ok
        have hLN : ∀ i, i ≤ m → (if ((catR (S2.rs.take i)).length : Int) ≤ high then i else leftK qq i) = leftK qq (i + 1) := fun i hi => by rw [hhi, hqq]; exact leftK_next hok2 kp (by rw [← HMM.out]; exact hi)
        have hLE : leftK qq (m + 1) = qq := by rw [hqq, HMM.out]; exact leftK_end kp
        have hc3 := crash_rs S2 kp
        rw [← hqq] at hc3
        obtain ⟨S3, hS3⟩ : ∃ x, x = S2.crash kp := ⟨_, rfl⟩
        rw [← hS3] at CR hc3
        obtain ⟨hcr, hcs, hcb⟩ := hc3
        have a0 : all ≤ 651 := by omega
        have a1 := hsf.1
        have a2' := hsf.2
        have HHK := hide hhk
        have HLN := hide hLN
        have HLE := hide hLE
        have HCR := hide hcr
        have HCS := hide hcs
        have HCB := hide hcb
        clear hb651 hsf hhk hall hwas hhi hqq hLN hLE hS3 hcr hcs hcb hok2 HW hbel
        go_wp2_with fail
        refine BY.out.mono ?_
        rintro e w' ⟨rfl, rfl⟩
        go_wp2_with fail
        refine SF.out.mono ?_
        rintro e w' ⟨rfl, rfl⟩
        go_wp2_with fail
        refine CR.out.mono ?_
        rintro e w14 ⟨⟨r14, rfl⟩, v3, hk3⟩
        have HK3 := hide hk3
        clear hk3 BY SF CR HK2
        obtain ⟨qk, hqk⟩ : ∃ x, x = decide (0 < kp ∧ kp < all - was) := ⟨_, rfl⟩
        have HQK := hide hqk
        clear hqk
        go_upto_region 52 with (fail)
        go_cut [248] from 240 to 247 (fun tx wx => tx = .bool qk ∧ wx = w14)
        case first =>
          by_cases g1 : 0 < kp
          · by_cases g2 : kp < all - was
            · have e1 : decide (0 < kp) = true := decide_eq_true g1
              have e2 : decide (kp < all - was) = true := decide_eq_true g2
              have HE : Hid (qk = true) := hide (by rw [HQK.out]; exact decide_eq_true ⟨g1, g2⟩)
              go_wp2
              go_meet
              case rel => exact ⟨by rw [HE.out], rfl⟩
            · have e1 : decide (0 < kp) = true := decide_eq_true g1
              have e2 : decide (kp < all - was) = false := decide_eq_false g2
              have HE : Hid (qk = false) := hide (by rw [HQK.out]; exact decide_eq_false (fun h => g2 h.2))
              go_wp2
              go_meet
              case rel => exact ⟨by rw [HE.out], rfl⟩
          · have e1 : decide (0 < kp) = false := decide_eq_false g1
            have HE : Hid (qk = false) := hide (by rw [HQK.out]; exact decide_eq_false (fun h => g1 h.1))
            go_wp2
            go_meet
            case rel => exact ⟨by rw [HE.out], rfl⟩
        case rest =>
          obtain ⟨rfl, hww⟩ := hcut
          have hww2 := hww.symm
          clear hww
          subst hww2
          go_upto_if 248 with (fail)
          go_cut [31] from 248 to 254 (fun hx wx => hx = .int .i64 high ∧ wx = w14)
          case first =>
            cases hq : qk
            · by_cases g1 : 0 < kp
              · have e1 : decide (0 < kp) = true := decide_eq_true g1
                have HE : Hid (high = all) := hide (by
                  have h := HQK.out
                  rw [hq] at h
                  have h2 := of_decide_eq_false h.symm
                  rw [← HHK.out]
                  unfold highK
                  rw [if_neg h2, if_pos g1])
                clear hq HQK
                go_wp2
                go_meet
                case rel => exact ⟨by rw [HE.out], rfl⟩
              · have e1 : decide (0 < kp) = false := decide_eq_false g1
                have HE : Hid (high = was) := hide (by
                  rw [← HHK.out]
                  unfold highK
                  rw [if_neg (fun h => g1 h.1), if_neg g1])
                clear hq HQK
                go_wp2
                go_meet
                case rel => exact ⟨by rw [HE.out], rfl⟩
            · have hh := HQK.out
              rw [hq] at hh
              have h2 := of_decide_eq_true hh.symm
              obtain ⟨g1, g2⟩ := h2
              have HE : Hid (high = was + kp) := hide (by
                rw [← HHK.out]
                unfold highK
                rw [if_pos ⟨g1, g2⟩])
              clear hq HQK hh
              go_wp2
              go_meet
              case rel => exact ⟨by rw [HE.out], rfl⟩
          case rest =>
            obtain ⟨rfl, hww⟩ := hcut
            have hww2 := hww.symm
            clear hww
            subst hww2
            have HMC : Hid (∀ i, i ≤ m → w14.cell? ⟨gm, i, none⟩ = some (.int .i64 ((catR (S2.rs.take i)).length : Int))) := hide (fun i hi => by
              have h := HK3.out.mcell HML.out (i := i) (by omega)
              rwa [marksR_at _ (by rw [← HMM.out]; exact hi)] at h)
            go_upto_block 6 with (fail)
            go_cut [32] from 255 to 267 (fun lx wx => lx = .int .i64 (qq : Int) ∧ wx = w14)
            case first =>
              go_wp2
              go_loopw [32, 33] (fun lx ix wr => ∃ i : Nat, lx = .int .i64 (leftK qq i : Int) ∧ ix = .int .i64 (i : Int) ∧ i ≤ m + 1 ∧ wr = w14) (fun _ ix _ => 100 - (intOf ix).toNat)
              case atStart => exact ⟨0, by simp [leftK], rfl, by omega, rfl⟩
              case round =>
                obtain ⟨i, rfl, rfl, hi, hww⟩ := hrel
                have hww2 := hww.symm
                clear hww
                subst hww2
                by_cases g1 : i < m + 1
                · have hci := HMC.out i (by omega)
                  have hnx := HLN.out i (by omega)
                  generalize ((catR (S2.rs.take i)).length : Int) = mi at hci hnx
                  by_cases g2 : mi ≤ high
                  · rw [if_pos g2] at hnx
                    have HNX := hide hnx
                    clear hnx
                    go_wp2
                    go_roundw
                    case rel => exact ⟨i + 1, by rw [← HNX.out], by go_num, by omega, by first | rfl | trivial⟩
                    case measure => (simp [intOf] <;> omega)
                  · rw [if_neg g2] at hnx
                    have HNX := hide hnx
                    clear hnx
                    go_wp2
                    go_roundw
                    case rel => exact ⟨i + 1, by rw [← HNX.out], by go_num, by omega, by first | rfl | trivial⟩
                    case measure => (simp [intOf] <;> omega)
                · have e : i = m + 1 := by omega
                  have HLQ : Hid (leftK qq i = qq) := hide (by rw [e]; exact HLE.out)
                  clear e
                  go_wp2
                  go_meet
                  case rel => exact ⟨by rw [HLQ.out], rfl⟩
            case rest =>
              obtain ⟨rfl, hww⟩ := hcut
              have hww2 := hww.symm
              clear hww
              subst hww2
              have hk4 := HK3.out.cut HVL.out HML.out (k := qq) (by rw [← HMM.out]; exact hq30) (by rw [← HMM.out]; exact hq30)
              rw [← HCR.out] at hk4
              have HK4 := hide hk4
              have hvl4 : (vs1.take (qq + 1)).length = qq + 1 := by rw [List.length_take, HVL.out]; omega
              have hr3 : S3.rs.length = qq := by rw [HCR.out, List.length_take, ← HMM.out]; omega
              have hml4 : (marksR S3.rs).length = qq + 1 := by rw [marksR_len, hr3]
              have hel := hk4.el qq (by omega)
              have hzs : moreR [] (S3.rs.take qq) = S3.zs := by unfold LS.zs; rw [List.take_of_length_le (by omega)]
              rw [hzs] at hel
              obtain ⟨y, hy⟩ : ∃ y, y = (vs1.take (qq + 1)).getD qq (.slice none 0 0) := ⟨_, rfl⟩
              have hcy := hk4.dcell hvl4 (i := qq) (by omega)
              have hcm := hk4.mcell hml4 (i := qq) (by omega)
              obtain ⟨N3, hN3⟩ : ∃ x : Int, x = (S3.bytes.length : Int) := ⟨_, rfl⟩
              have hmq : (marksR S3.rs).getD qq 0 = N3 := by
                rw [marksR_at _ (by omega), hN3, HCB.out, HCR.out, List.take_take, Nat.min_self]
              rw [← hy] at hel hcy
              rw [hmq] at hcm
              have hdl := (hk4.dn.lt gd rfl).2
              have hdm := (hk4.mr.lt gm rfl).2
              have HPY := hide hel.ps
              have HCY : Hid (∀ W', Below w14.heap.size w14 W' → W'.cell? ⟨gd, qq, none⟩ = some y ∧ W'.cell? ⟨gm, qq, none⟩ = some (.int .i64 N3)) := hide (fun W' hW => ⟨(hW.cell (p := ⟨gd, qq, none⟩) hdl).trans hcy, (hW.cell (p := ⟨gm, qq, none⟩) hdm).trans hcm⟩)
              have AL := hide (fun W (hW : Below w14.heap.size w14 W) => kaAll (HK4.out.below hW))
              have BY := hide (fun W (hW : Below w14.heap.size w14 W) => lwBytes (HK4.out.below hW).lw)
              have SF := hide (fun W (hW : Below w14.heap.size w14 W) => lwSafe (HK4.out.below hW).lw)
              rw [← hN3] at BY
              rw [HCS.out, ← hN3] at SF
              have SM := hide (fun W W2 v9 (h1 : PSl W v9 S3.zs) (h2 : Below W.heap.size W W2) (h3 : Below w14.heap.size w14 W2) => sameSpent W2 (h1.below h2) (HPY.out.below h3))
              obtain ⟨Z, hZ⟩ : ∃ Z, Z = S3.zs := ⟨_, rfl⟩
              rw [← hZ] at AL SM
              have hrr := Below.refl w14.heap.size w14
              have KK0 := HCY.out _ hrr
              obtain ⟨m0, m1⟩ := KK0
              have KK0 := HCY.out _ hrr
              have sb1 : (0 : Int) ≤ (qq : Int) := by omega
              have sb2 : (qq : Int) < (qq : Int) + 1 := by omega
              have sb3 : (qq : Int) + 1 ≤ (cd : Int) := by omega
              have sb4 : (qq : Int) + 1 ≤ (cm : Int) := by omega
              have sb5 : (qq : Int) + 1 ≤ (m : Int) + 1 := by omega
              clear hk4 hvl4 hr3 hml4 hel hzs hy hcy hcm hN3 hmq hdl hdm hZ
              go_upto_region 64 with (fail)
              go_region_held3 (fun w' => w'.cell? ⟨gd, qq, none⟩ = some y ∧ w'.cell? ⟨gm, qq, none⟩ = some (.int .i64 N3)) (first | with_reducible assumption | (refine HCY.out _ ?_; go_grown) | go_keep)
                (first
                  | (go_at_call 11; refine (AL.out _ (by go_grown)).mono ?_; rintro e5 w61 ⟨v9, rfl, hp9, hb61⟩; have hw61 : Below w14.heap.size w14 w61 := Below.trans (by go_grown) (Below.mono hb61 (by first | omega | (simp; done) | (simp; omega))); have KK := HCY.out _ hw61; have HP9 := hide hp9; clear hp9 hb61)
                  | (go_at_call 17; refine (SM.out _ _ _ HP9.out (by go_grown) (by go_grown)).mono ?_; rintro e6 w62 ⟨rfl, hb62⟩; have hz61 := hw61.size; have hw62 : Below w14.heap.size w14 w62 := Below.trans (by go_grown) (Below.mono hb62 (by first | omega | (simp; done) | (simp; omega))); have KK2 := HCY.out _ hw62; clear hb62)
                  | (go_at_call 12; refine (BY.out _ (by go_grown)).mono ?_; rintro e7 w63 ⟨rfl, rfl⟩)
                  | (go_at_call 13; refine (SF.out _ (by go_grown)).mono ?_; rintro e8 w64 ⟨rfl, rfl⟩))
              have HK5 := hide (HK4.out.below hw62)
              clear hrr KK0 KK KK2 m0 m1 hw61 hw62 AL SM BY SF HCY HK4 HP9 HPY
              go_wp2
              exact hend.out _ _ _ _ _ _ _ _ _ _ _ _ _ _ _ _ _ _ _ _ _ _ _ _ _ _ _ _ _ _ _ _ _ _ _ _ _ _ _ _ _ _ _ _ _ _ _ _ _ _ _ _ _ _ _ _ _ _ _ _ _ _ _ _ _ _ _ _ _ _ _ _ _ _ _ _ _ _ _ _ _ _ _ _ _ _ _ _ _ _ _ _ _ _ _ _ _ _ _ _ _ _ _ _ _ _ _ _ _ _ _ _ _ _ _ _ _ _ _ _ _ _ _ _ _ _ _ _ _ _ _ _ _ _ _ _ _ _ _ _ _ _ _ _ _ _ _ _ _ _ _ _ _ _ _ _ _ _ _ _ _ _ _ _ _ _ _ _ _ _ _ _ _ _ _ _ _ _ _ _ _ _ _ _ _ _ _ _ _ _ _ _ _ _ _ _ _ _ _ _ _ _ _ _ _ _ _ _ _ _ _ _ _ _ _ _ _ _ _ _ _ _ _ _ _ _ _ _ _ _ _ _ _ _ _ _ _ _ _ _ _ p1 S3 v3 _ _ _ _ hp1 HK5
end Go.Proofs.YtjbpkmmpbhngbaaGreatDoor
