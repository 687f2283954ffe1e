/- ServerPlays, a deed: crash. -/
import Derived.Test.YtkkmlolnikomdaaGreatDoorServerPlaysProofM41
import Derived.Test.YtkkmlolnikomdaaGreatDoorServerPlaysProofM30
import Derived.Test.YtkkmlolnikomdaaGreatDoorServerPlaysProofM16
import Derived.Deep.DeepCutAuto
import Derived.Deep.CutBlock
namespace Go.Proofs.YtkkmlolnikomdaaGreatDoor
open Go.RowKit

set_option linter.unusedVariables false
set_option maxRecDepth 1000000 in
set_option maxHeartbeats 32000000 in
theorem spCrash (w w9 : World) (long : Int) (b r T K bd offd bl offl bt offt k len cap len2 cap2 len3 cap3 : Nat) (A : Vals) (x0 x1 x2 x3 y0 y1 y2 y3 d tm g0 t0 t1 t2 t3 u0 u1 u2 u3 : Int) (s : ByteArray) (Qx : Exit → Act → World → Prop)
    (c0 c1 c5 c6 c7 c8 c9 c10 c11 c12 c13 c15 c21 c22 c23 c24 c25 c26 c27 c28 c29 c30 c31 c32 c33 c34 c35 c36 c37 c38 c39 c40 c41 c42 c43 c44 c45 c46 c47 c48 c49 c50 c51 c52 c53 c54 c55 c56 c57 c58 c59 c60 c61 c62 c63 c64 c65 c66 c67 c68 c69 c70 c71 c72 c73 c74 c75 c76 c77 c78 c79 c80 c81 c82 c83 c84 c85 c86 c87 c88 c89 c90 c91 c92 c93 c94 c95 c96 c97 c98 c99 c100 c101 c102 c103 c104 c105 c106 c107 c108 c109 c110 c111 c112 c113 c114 c115 c116 c117 c118 c119 c120 c121 c122 c123 c124 c125 c126 c127 c128 c129 c130 c131 c132 c133 c134 c135 c136 c137 c138 c139 c140 c141 c142 c143 c144 c145 c146 c147 c148 c149 c150 c151 c152 c153 c154 c155 c156 c157 c158 c159 c160 c161 c162 c163 c164 c165 c166 c167 c168 c169 c170 c171 c172 c173 c174 c175 c176 c177 c178 c179 c180 c181 c182 c183 c184 c185 c186 c187 c188 c189 c190 c191 c192 c193 c194 c195 c196 c197 c198 c199 c200 c201 c202 c203 c204 c205 c206 c207 c208 c209 c210 c211 c212 c213 c214 c215 c216 c217 c218 c219 c220 c221 c222 c223 c224 c225 c226 c227 c228 c229 c230 c231 c232 c233 c234 c235 c236 c237 c238 c239 c240 c241 c242 : Value)
    (hm : len ≤ 9223372036854775807) (hm2 : len2 ≤ 9223372036854775807) (hm3 : len3 ≤ 9223372036854775807)
    (HE : Hid (∀ (c : Int) W, Below w.heap.size w W → Calls Tryz.prog 7 #[errV c, .int .i64 c] W fun e w' => e = .returned (.bool true) ∧ Below W.heap.size W w'))
    (hwT : w.heap.size ≤ T) (hwK : w.heap.size ≤ K) (hk : k ≤ len) (hk60 : k ≤ 60) (HI : Hid (PI long A k)) (HP : Hid (PLw w w9 b r T K long A A [K, T] x0 x1 x2 x3 y0 y1 y2 y3)) (hb9 : Below w.heap.size w w9)
    (h1 : k < len) (h2 : k < len2) (h3 : k < len3) (h4 : k < 60) (hltd : bd < w.heap.size) (hltt : bt < w.heap.size) (hltl : bl < w.heap.size)
    (rd : w9.cell? ⟨bd, offd + k, none⟩ = some (.int .i64 d))
    (HTM : Hid (∀ w' : World, Below w.heap.size w w' → w'.cell? ⟨bt, offt + k, none⟩ = some (.int .i64 tm))) (HRD : Hid (∀ w' : World, Below w.heap.size w w' → w'.cell? ⟨bd, offd + k, none⟩ = some (.int .i64 d)))
    (HHE : Hid (HelloAt w bl (offl + k * 10) g0 t0 t1 t2 t3 u0 u1 u2 u3 s)) (HSZ : Hid (s.size ≤ maxLen))
    (hd0 : d = 2)
    (hend : Hid (∀ (v10 v21 v22 v23 v24 v25 v26 v27 v28 v29 v30 v31 v32 v33 v34 v35 v63 v64 v65 v66 v67 v68 v69 v70 v71 v72 v73 v74 v75 v76 v77 v78 v79 v80 v81 v82 v83 v84 v85 v86 v87 v88 v89 v90 v91 v92 v93 v94 v95 v96 v97 v98 v99 v100 v101 v102 v103 v104 v105 v106 v107 v108 v109 v110 v111 v112 v113 v114 v115 v116 v117 v118 v119 v120 v121 v122 v123 v124 v125 v126 v127 v128 v129 v130 v131 v132 v133 v134 v135 v136 v137 v138 v139 v140 v141 v142 v143 v144 v145 v146 v147 v148 v149 v150 v151 v152 v153 v154 v155 v156 v157 v158 v159 v160 v161 v162 v163 v164 v165 v166 v167 v168 v169 v170 v171 v172 v173 v174 v175 v176 v177 v178 v179 v180 v181 v182 v183 v184 v185 v186 v187 v188 v189 v190 v191 v192 v193 v194 v195 v196 v197 v198 v199 v200 v201 v202 v203 v204 v205 v206 v207 v208 v209 v210 v211 v212 v213 v214 v215 v216 v217 v218 v219 v220 v221 v222 v223 v224 v225 v226 v227 v228 v229 v230 v231 v232 v233 v234 v235 v236 v237 v238 v239 v240 v241 v242 : Value) (C : Vals) (z0 z1 z2 z3 z4 z5 z6 z7 : Int) (w' : World), Hid (PI long C (k + 1)) → Hid (PLw w w' b r T K long C C [K, T] z0 z1 z2 z3 z4 z5 z6 z7) → Qx Exit.normal { tmps := List.toArray (c0 :: c1 :: (.slice (some ⟨bd, offd, none⟩) len cap : Value) :: (.slice (some ⟨bl, offl, none⟩) len2 cap2 : Value) :: (.slice (some ⟨bt, offt, none⟩) len3 cap3 : Value) :: c5 :: c6 :: c7 :: c8 :: c9 :: v10 :: c11 :: c12 :: c13 :: (.pointer (some ⟨b, 0, none⟩) : Value) :: c15 :: (.bool true : Value) :: (.pointer (some ⟨r, 0, none⟩) : Value) :: (.pointer (some ⟨T, 0, none⟩) : Value) :: (.pointer (some ⟨K, 0, none⟩) : Value) :: (.int .i64 ((k : Int) + 1) : Value) :: v21 :: v22 :: v23 :: v24 :: v25 :: v26 :: v27 :: v28 :: v29 :: v30 :: v31 :: v32 :: v33 :: v34 :: v35 :: c36 :: c37 :: c38 :: c39 :: c40 :: c41 :: c42 :: c43 :: c44 :: c45 :: c46 :: c47 :: c48 :: c49 :: c50 :: c51 :: c52 :: c53 :: c54 :: c55 :: c56 :: c57 :: c58 :: c59 :: c60 :: c61 :: c62 :: v63 :: v64 :: v65 :: v66 :: v67 :: v68 :: v69 :: v70 :: v71 :: v72 :: v73 :: v74 :: v75 :: v76 :: v77 :: v78 :: v79 :: v80 :: v81 :: v82 :: v83 :: v84 :: v85 :: v86 :: v87 :: v88 :: v89 :: v90 :: v91 :: v92 :: v93 :: v94 :: v95 :: v96 :: v97 :: v98 :: v99 :: v100 :: v101 :: v102 :: v103 :: v104 :: v105 :: v106 :: v107 :: v108 :: v109 :: v110 :: v111 :: v112 :: v113 :: v114 :: v115 :: v116 :: v117 :: v118 :: v119 :: v120 :: v121 :: v122 :: v123 :: v124 :: v125 :: v126 :: v127 :: v128 :: v129 :: v130 :: v131 :: v132 :: v133 :: v134 :: v135 :: v136 :: v137 :: v138 :: v139 :: v140 :: v141 :: v142 :: v143 :: v144 :: v145 :: v146 :: v147 :: v148 :: v149 :: v150 :: v151 :: v152 :: v153 :: v154 :: v155 :: v156 :: v157 :: v158 :: v159 :: v160 :: v161 :: v162 :: v163 :: v164 :: v165 :: v166 :: v167 :: v168 :: v169 :: v170 :: v171 :: v172 :: v173 :: v174 :: v175 :: v176 :: v177 :: v178 :: v179 :: v180 :: v181 :: v182 :: v183 :: v184 :: v185 :: v186 :: v187 :: v188 :: v189 :: v190 :: v191 :: v192 :: v193 :: v194 :: v195 :: v196 :: v197 :: v198 :: v199 :: v200 :: v201 :: v202 :: v203 :: v204 :: v205 :: v206 :: v207 :: v208 :: v209 :: v210 :: v211 :: v212 :: v213 :: v214 :: v215 :: v216 :: v217 :: v218 :: v219 :: v220 :: v221 :: v222 :: v223 :: v224 :: v225 :: v226 :: v227 :: v228 :: v229 :: v230 :: v231 :: v232 :: v233 :: v234 :: v235 :: v236 :: v237 :: v238 :: v239 :: v240 :: v241 :: v242 :: List.nil), defers := [] } w')) :
    Code.wp Tryz.prog spBody Qx { tmps := List.toArray (c0 :: c1 :: (.slice (some ⟨bd, offd, none⟩) len cap : Value) :: (.slice (some ⟨bl, offl, none⟩) len2 cap2 : Value) :: (.slice (some ⟨bt, offt, none⟩) len3 cap3 : Value) :: c5 :: c6 :: c7 :: c8 :: c9 :: c10 :: c11 :: c12 :: c13 :: (.pointer (some ⟨b, 0, none⟩) : Value) :: c15 :: (.bool true : Value) :: (.pointer (some ⟨r, 0, none⟩) : Value) :: (.pointer (some ⟨T, 0, none⟩) : Value) :: (.pointer (some ⟨K, 0, none⟩) : Value) :: (.int .i64 (k : Int) : Value) :: c21 :: c22 :: c23 :: c24 :: c25 :: c26 :: c27 :: c28 :: c29 :: c30 :: c31 :: c32 :: c33 :: c34 :: c35 :: c36 :: c37 :: c38 :: c39 :: c40 :: c41 :: c42 :: c43 :: c44 :: c45 :: c46 :: c47 :: c48 :: c49 :: c50 :: c51 :: c52 :: c53 :: c54 :: c55 :: c56 :: c57 :: c58 :: c59 :: c60 :: c61 :: c62 :: c63 :: c64 :: c65 :: c66 :: c67 :: c68 :: c69 :: c70 :: c71 :: c72 :: c73 :: c74 :: c75 :: c76 :: c77 :: c78 :: c79 :: c80 :: c81 :: c82 :: c83 :: c84 :: c85 :: c86 :: c87 :: c88 :: c89 :: c90 :: c91 :: c92 :: c93 :: c94 :: c95 :: c96 :: c97 :: c98 :: c99 :: c100 :: c101 :: c102 :: c103 :: c104 :: c105 :: c106 :: c107 :: c108 :: c109 :: c110 :: c111 :: c112 :: c113 :: c114 :: c115 :: c116 :: c117 :: c118 :: c119 :: c120 :: c121 :: c122 :: c123 :: c124 :: c125 :: c126 :: c127 :: c128 :: c129 :: c130 :: c131 :: c132 :: c133 :: c134 :: c135 :: c136 :: c137 :: c138 :: c139 :: c140 :: c141 :: c142 :: c143 :: c144 :: c145 :: c146 :: c147 :: c148 :: c149 :: c150 :: c151 :: c152 :: c153 :: c154 :: c155 :: c156 :: c157 :: c158 :: c159 :: c160 :: c161 :: c162 :: c163 :: c164 :: c165 :: c166 :: c167 :: c168 :: c169 :: c170 :: c171 :: c172 :: c173 :: c174 :: c175 :: c176 :: c177 :: c178 :: c179 :: c180 :: c181 :: c182 :: c183 :: c184 :: c185 :: c186 :: c187 :: c188 :: c189 :: c190 :: c191 :: c192 :: c193 :: c194 :: c195 :: c196 :: c197 :: c198 :: c199 :: c200 :: c201 :: c202 :: c203 :: c204 :: c205 :: c206 :: c207 :: c208 :: c209 :: c210 :: c211 :: c212 :: c213 :: c214 :: c215 :: c216 :: c217 :: c218 :: c219 :: c220 :: c221 :: c222 :: c223 :: c224 :: c225 :: c226 :: c227 :: c228 :: c229 :: c230 :: c231 :: c232 :: c233 :: c234 :: c235 :: c236 :: c237 :: c238 :: c239 :: c240 :: c241 :: c242 :: List.nil), defers := [] } w9 := by
  conv => arg 2; whnf
  have tq1 : decide ((k : Int) < (len : Int)) = true := by simp; omega
  have tq2 : decide ((k : Int) < (len2 : Int)) = true := by simp; omega
  have tq3 : decide ((k : Int) < (len3 : Int)) = true := by simp; omega
  have tq4 : decide ((k : Int) < 60) = true := by simp; omega
  subst hd0
  go_upto_block 2 with (fail)
  clear tq1 tq2 tq3 tq4
  go_cut [16] from 85 to 229 (fun tl wx => tl = .bool true ∧ ∃ (C : Vals) (z0 z1 z2 z3 z4 z5 z6 z7 : Int), Hid (PI long C (k + 1)) ∧ Hid (PLw w wx b r T K long C C [K, T] z0 z1 z2 z3 z4 z5 z6 z7))
  case first =>
    obtain ⟨C, hIC, hR, hG⟩ := pl_crash (B := w.heap.size) (b := b) (r := r) HI.out
    have HIC := hide hIC
    have HRR := hide (hR w9 _ HP.out.1)
    have HG := hide hG
    clear hIC hR hG HI
    go_wp2_with fail
    refine HRR.out.mono ?_
    rintro rr w10 ⟨rfl, hp10, hf10, hb10⟩
    have HP10 := hide (HP.out.go hp10 hf10 hb10)
    clear hp10 hf10 hb10 HRR HP
    go_wp2_with fail
    refine (HG.out _ _ HP10.out.1).mono ?_
    rintro rr w11 ⟨rfl, hp11, hf11, hb11⟩
    have HP11 := hide (HP10.out.go hp11 hf11 hb11)
    clear hp11 hf11 hb11 HG HP10
    try go_wp2
    go_meet
    case rel => exact ⟨rfl, C, x0, x1, x2, x3, y0, y1, y2, y3, HIC, hide HP11.out.drop⟩
  case rest =>
    obtain ⟨rfl, C, z0, z1, z2, z3, z4, z5, z6, z7, HIC, HPC⟩ := hcut
    obtain ⟨w60, rfl⟩ : ∃ x, x = wc := ⟨wc, rfl⟩
    clear HP HI rd HTM HRD HHE HSZ
    obtain ⟨aq, cq, hqc⟩ := HPC.out.1.que
    have hqb : ∀ w' : World, Below w60.heap.size w60 w' → w'.cell? ⟨r, 4, none⟩ = some (.slice aq (C).zs.length cq) := fun w' hB' => (hB'.cell (p := ⟨r, 4, none⟩) (by
      rcases Nat.lt_or_ge r w60.heap.size with h | h
      · exact h
      · simp [World.cell?, Array.getElem?_eq_none h] at hqc)).trans hqc
    have HQB := hide hqb
    have hzl : (C).zs.length ≤ 8 := HIC.out.2.2.1
    obtain ⟨zl, hzl2⟩ : ∃ zl, zl = (C).zs.length := ⟨_, rfl⟩
    have HWT : Hid (∀ W', Below w60.heap.size w60 W' → Calls Tryz.prog 19 #[.pointer (some ⟨b, 0, none⟩)] W' fun x w' => x = .returned (.int .i64 (zl : Int)) ∧ Below W'.heap.size W' w') := fun W' hB' => by rw [hzl2]; exact (HPC.out.1.below hB').wait
    rw [← hzl2] at HQB hqc hzl
    have HB9 := hide HPC.out.bel
    clear hqb hzl2
    have hrr := Below.refl w60.heap.size w60
    go_wp2_with fail
    go_region_held3 (fun w' => w'.cell? ⟨r, 4, none⟩ = some (.slice aq zl cq)) (first | with_reducible assumption | exact HQB.out _ (by assumption) | (refine HQB.out _ ?_; go_grown) | go_keep)
      (first | (go_at_call 19; refine (HWT.out _ (by go_grown)).mono ?_; rintro e5 w50 ⟨rfl, hb50⟩; have hw50 : Below w60.heap.size w60 w50 := Below.trans (by go_grown) (Below.mono hb50 (by first | omega | (simp; done) | (simp; omega))); have KK := HQB.out _ hw50; clear hb50))
    all_goals (have HPF := hide (HPC.out.below hw50))
    all_goals clear hrr HWT HQB hqc
    all_goals go_wp2
    all_goals exact hend.out _ _ _ _ _ _ _ _ _ _ _ _ _ _ _ _ _ _ _ _ _ _ _ _ _ _ _ _ _ _ _ _ _ _ _ _ _ _ _ _ _ _ _ _ _ _ _ _ _ _ _ _ _ _ _ _ _ _ _ _ _ _ _ _ _ _ _ _ _ _ _ _ _ _ _ _ _ _ _ _ _ _ _ _ _ _ _ _ _ _ _ _ _ _ _ _ _ _ _ _ _ _ _ _ _ _ _ _ _ _ _ _ _ _ _ _ _ _ _ _ _ _ _ _ _ _ _ _ _ _ _ _ _ _ _ _ _ _ _ _ _ _ _ _ _ _ _ _ _ _ _ _ _ _ _ _ _ _ _ _ _ _ _ _ _ _ _ _ _ _ _ _ _ _ _ _ _ _ _ _ _ _ _ _ _ _ _ _ _ _ _ _ _ _ _ _ C z0 z1 z2 z3 z4 z5 z6 z7 _ HIC (hide (HPF.out.drop))
end Go.Proofs.YtkkmlolnikomdaaGreatDoor
