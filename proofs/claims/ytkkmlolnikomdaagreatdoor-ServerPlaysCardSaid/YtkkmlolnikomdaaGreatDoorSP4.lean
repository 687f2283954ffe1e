/- ServerPlays, a deed: helloO. -/
import Derived.Test.YtkkmlolnikomdaaGreatDoorServerPlaysProofM41
import Derived.Test.YtkkmlolnikomdaaGreatDoorServerPlaysProofM30
import Derived.Test.YtkkmlolnikomdaaGreatDoorServerPlaysProofM16
import Derived.Deep.DeepCutAuto
import Derived.Deep.CutBlock
namespace Go.Proofs.YtkkmlolnikomdaaGreatDoor
open Go.RowKit

set_option linter.unusedVariables false
set_option maxRecDepth 1000000 in
set_option maxHeartbeats 32000000 in
theorem spHelloO (w w9 : World) (long : Int) (b r T K bd offd bl offl bt offt k len cap len2 cap2 len3 cap3 : Nat) (A : Vals) (x0 x1 x2 x3 y0 y1 y2 y3 d tm g0 t0 t1 t2 t3 u0 u1 u2 u3 : Int) (s : ByteArray) (Qx : Exit → Act → World → Prop)
    (c0 c1 c5 c6 c7 c8 c9 c10 c11 c12 c13 c15 c21 c22 c23 c24 c25 c26 c27 c28 c29 c30 c31 c32 c33 c34 c35 c36 c37 c38 c39 c40 c41 c42 c43 c44 c45 c46 c47 c48 c49 c50 c51 c52 c53 c54 c55 c56 c57 c58 c59 c60 c61 c62 c63 c64 c65 c66 c67 c68 c69 c70 c71 c72 c73 c74 c75 c76 c77 c78 c79 c80 c81 c82 c83 c84 c85 c86 c87 c88 c89 c90 c91 c92 c93 c94 c95 c96 c97 c98 c99 c100 c101 c102 c103 c104 c105 c106 c107 c108 c109 c110 c111 c112 c113 c114 c115 c116 c117 c118 c119 c120 c121 c122 c123 c124 c125 c126 c127 c128 c129 c130 c131 c132 c133 c134 c135 c136 c137 c138 c139 c140 c141 c142 c143 c144 c145 c146 c147 c148 c149 c150 c151 c152 c153 c154 c155 c156 c157 c158 c159 c160 c161 c162 c163 c164 c165 c166 c167 c168 c169 c170 c171 c172 c173 c174 c175 c176 c177 c178 c179 c180 c181 c182 c183 c184 c185 c186 c187 c188 c189 c190 c191 c192 c193 c194 c195 c196 c197 c198 c199 c200 c201 c202 c203 c204 c205 c206 c207 c208 c209 c210 c211 c212 c213 c214 c215 c216 c217 c218 c219 c220 c221 c222 c223 c224 c225 c226 c227 c228 c229 c230 c231 c232 c233 c234 c235 c236 c237 c238 c239 c240 c241 c242 : Value)
    (hm : len ≤ 9223372036854775807) (hm2 : len2 ≤ 9223372036854775807) (hm3 : len3 ≤ 9223372036854775807)
    (HE : Hid (∀ (c : Int) W, Below w.heap.size w W → Calls Tryz.prog 7 #[errV c, .int .i64 c] W fun e w' => e = .returned (.bool true) ∧ Below W.heap.size W w'))
    (hwT : w.heap.size ≤ T) (hwK : w.heap.size ≤ K) (hk : k ≤ len) (hk60 : k ≤ 60) (HI : Hid (PI long A k)) (HP : Hid (PLw w w9 b r T K long A A [K, T] x0 x1 x2 x3 y0 y1 y2 y3)) (hb9 : Below w.heap.size w w9)
    (h1 : k < len) (h2 : k < len2) (h3 : k < len3) (h4 : k < 60) (hltd : bd < w.heap.size) (hltt : bt < w.heap.size) (hltl : bl < w.heap.size)
    (rd : w9.cell? ⟨bd, offd + k, none⟩ = some (.int .i64 d))
    (HTM : Hid (∀ w' : World, Below w.heap.size w w' → w'.cell? ⟨bt, offt + k, none⟩ = some (.int .i64 tm))) (HRD : Hid (∀ w' : World, Below w.heap.size w w' → w'.cell? ⟨bd, offd + k, none⟩ = some (.int .i64 d)))
    (HHE : Hid (HelloAt w bl (offl + k * 10) g0 t0 t1 t2 t3 u0 u1 u2 u3 s)) (HSZ : Hid (s.size ≤ maxLen))
    (hd0 : d ≠ 0 ∧ d ≠ 1 ∧ d ≠ 2 ∧ d ≠ 3) (tev : (d.tmod 2 == 0) = false)
    (hend : Hid (∀ (v10 v21 v22 v23 v24 v25 v26 v27 v28 v29 v30 v31 v32 v33 v34 v35 v63 v64 v65 v66 v67 v68 v69 v70 v71 v72 v73 v74 v75 v76 v77 v78 v79 v80 v81 v82 v83 v84 v85 v86 v87 v88 v89 v90 v91 v92 v93 v94 v95 v96 v97 v98 v99 v100 v101 v102 v103 v104 v105 v106 v107 v108 v109 v110 v111 v112 v113 v114 v115 v116 v117 v118 v119 v120 v121 v122 v123 v124 v125 v126 v127 v128 v129 v130 v131 v132 v133 v134 v135 v136 v137 v138 v139 v140 v141 v142 v143 v144 v145 v146 v147 v148 v149 v150 v151 v152 v153 v154 v155 v156 v157 v158 v159 v160 v161 v162 v163 v164 v165 v166 v167 v168 v169 v170 v171 v172 v173 v174 v175 v176 v177 v178 v179 v180 v181 v182 v183 v184 v185 v186 v187 v188 v189 v190 v191 v192 v193 v194 v195 v196 v197 v198 v199 v200 v201 v202 v203 v204 v205 v206 v207 v208 v209 v210 v211 v212 v213 v214 v215 v216 v217 v218 v219 v220 v221 v222 v223 v224 v225 v226 v227 v228 v229 v230 v231 v232 v233 v234 v235 v236 v237 v238 v239 v240 v241 v242 : Value) (C : Vals) (z0 z1 z2 z3 z4 z5 z6 z7 : Int) (w' : World), Hid (PI long C (k + 1)) → Hid (PLw w w' b r T K long C C [K, T] z0 z1 z2 z3 z4 z5 z6 z7) → Qx Exit.normal { tmps := List.toArray (c0 :: c1 :: (.slice (some ⟨bd, offd, none⟩) len cap : Value) :: (.slice (some ⟨bl, offl, none⟩) len2 cap2 : Value) :: (.slice (some ⟨bt, offt, none⟩) len3 cap3 : Value) :: c5 :: c6 :: c7 :: c8 :: c9 :: v10 :: c11 :: c12 :: c13 :: (.pointer (some ⟨b, 0, none⟩) : Value) :: c15 :: (.bool true : Value) :: (.pointer (some ⟨r, 0, none⟩) : Value) :: (.pointer (some ⟨T, 0, none⟩) : Value) :: (.pointer (some ⟨K, 0, none⟩) : Value) :: (.int .i64 ((k : Int) + 1) : Value) :: v21 :: v22 :: v23 :: v24 :: v25 :: v26 :: v27 :: v28 :: v29 :: v30 :: v31 :: v32 :: v33 :: v34 :: v35 :: c36 :: c37 :: c38 :: c39 :: c40 :: c41 :: c42 :: c43 :: c44 :: c45 :: c46 :: c47 :: c48 :: c49 :: c50 :: c51 :: c52 :: c53 :: c54 :: c55 :: c56 :: c57 :: c58 :: c59 :: c60 :: c61 :: c62 :: v63 :: v64 :: v65 :: v66 :: v67 :: v68 :: v69 :: v70 :: v71 :: v72 :: v73 :: v74 :: v75 :: v76 :: v77 :: v78 :: v79 :: v80 :: v81 :: v82 :: v83 :: v84 :: v85 :: v86 :: v87 :: v88 :: v89 :: v90 :: v91 :: v92 :: v93 :: v94 :: v95 :: v96 :: v97 :: v98 :: v99 :: v100 :: v101 :: v102 :: v103 :: v104 :: v105 :: v106 :: v107 :: v108 :: v109 :: v110 :: v111 :: v112 :: v113 :: v114 :: v115 :: v116 :: v117 :: v118 :: v119 :: v120 :: v121 :: v122 :: v123 :: v124 :: v125 :: v126 :: v127 :: v128 :: v129 :: v130 :: v131 :: v132 :: v133 :: v134 :: v135 :: v136 :: v137 :: v138 :: v139 :: v140 :: v141 :: v142 :: v143 :: v144 :: v145 :: v146 :: v147 :: v148 :: v149 :: v150 :: v151 :: v152 :: v153 :: v154 :: v155 :: v156 :: v157 :: v158 :: v159 :: v160 :: v161 :: v162 :: v163 :: v164 :: v165 :: v166 :: v167 :: v168 :: v169 :: v170 :: v171 :: v172 :: v173 :: v174 :: v175 :: v176 :: v177 :: v178 :: v179 :: v180 :: v181 :: v182 :: v183 :: v184 :: v185 :: v186 :: v187 :: v188 :: v189 :: v190 :: v191 :: v192 :: v193 :: v194 :: v195 :: v196 :: v197 :: v198 :: v199 :: v200 :: v201 :: v202 :: v203 :: v204 :: v205 :: v206 :: v207 :: v208 :: v209 :: v210 :: v211 :: v212 :: v213 :: v214 :: v215 :: v216 :: v217 :: v218 :: v219 :: v220 :: v221 :: v222 :: v223 :: v224 :: v225 :: v226 :: v227 :: v228 :: v229 :: v230 :: v231 :: v232 :: v233 :: v234 :: v235 :: v236 :: v237 :: v238 :: v239 :: v240 :: v241 :: v242 :: List.nil), defers := [] } w')) :
    Code.wp Tryz.prog spBody Qx { tmps := List.toArray (c0 :: c1 :: (.slice (some ⟨bd, offd, none⟩) len cap : Value) :: (.slice (some ⟨bl, offl, none⟩) len2 cap2 : Value) :: (.slice (some ⟨bt, offt, none⟩) len3 cap3 : Value) :: c5 :: c6 :: c7 :: c8 :: c9 :: c10 :: c11 :: c12 :: c13 :: (.pointer (some ⟨b, 0, none⟩) : Value) :: c15 :: (.bool true : Value) :: (.pointer (some ⟨r, 0, none⟩) : Value) :: (.pointer (some ⟨T, 0, none⟩) : Value) :: (.pointer (some ⟨K, 0, none⟩) : Value) :: (.int .i64 (k : Int) : Value) :: c21 :: c22 :: c23 :: c24 :: c25 :: c26 :: c27 :: c28 :: c29 :: c30 :: c31 :: c32 :: c33 :: c34 :: c35 :: c36 :: c37 :: c38 :: c39 :: c40 :: c41 :: c42 :: c43 :: c44 :: c45 :: c46 :: c47 :: c48 :: c49 :: c50 :: c51 :: c52 :: c53 :: c54 :: c55 :: c56 :: c57 :: c58 :: c59 :: c60 :: c61 :: c62 :: c63 :: c64 :: c65 :: c66 :: c67 :: c68 :: c69 :: c70 :: c71 :: c72 :: c73 :: c74 :: c75 :: c76 :: c77 :: c78 :: c79 :: c80 :: c81 :: c82 :: c83 :: c84 :: c85 :: c86 :: c87 :: c88 :: c89 :: c90 :: c91 :: c92 :: c93 :: c94 :: c95 :: c96 :: c97 :: c98 :: c99 :: c100 :: c101 :: c102 :: c103 :: c104 :: c105 :: c106 :: c107 :: c108 :: c109 :: c110 :: c111 :: c112 :: c113 :: c114 :: c115 :: c116 :: c117 :: c118 :: c119 :: c120 :: c121 :: c122 :: c123 :: c124 :: c125 :: c126 :: c127 :: c128 :: c129 :: c130 :: c131 :: c132 :: c133 :: c134 :: c135 :: c136 :: c137 :: c138 :: c139 :: c140 :: c141 :: c142 :: c143 :: c144 :: c145 :: c146 :: c147 :: c148 :: c149 :: c150 :: c151 :: c152 :: c153 :: c154 :: c155 :: c156 :: c157 :: c158 :: c159 :: c160 :: c161 :: c162 :: c163 :: c164 :: c165 :: c166 :: c167 :: c168 :: c169 :: c170 :: c171 :: c172 :: c173 :: c174 :: c175 :: c176 :: c177 :: c178 :: c179 :: c180 :: c181 :: c182 :: c183 :: c184 :: c185 :: c186 :: c187 :: c188 :: c189 :: c190 :: c191 :: c192 :: c193 :: c194 :: c195 :: c196 :: c197 :: c198 :: c199 :: c200 :: c201 :: c202 :: c203 :: c204 :: c205 :: c206 :: c207 :: c208 :: c209 :: c210 :: c211 :: c212 :: c213 :: c214 :: c215 :: c216 :: c217 :: c218 :: c219 :: c220 :: c221 :: c222 :: c223 :: c224 :: c225 :: c226 :: c227 :: c228 :: c229 :: c230 :: c231 :: c232 :: c233 :: c234 :: c235 :: c236 :: c237 :: c238 :: c239 :: c240 :: c241 :: c242 :: List.nil), defers := [] } w9 := by
  conv => arg 2; whnf
  have tq1 : decide ((k : Int) < (len : Int)) = true := by simp; omega
  have tq2 : decide ((k : Int) < (len2 : Int)) = true := by simp; omega
  have tq3 : decide ((k : Int) < (len3 : Int)) = true := by simp; omega
  have tq4 : decide ((k : Int) < 60) = true := by simp; omega
  have e0 : (d == 0) = false := beq_eq_false_iff_ne.2 hd0.1
  have e1 : (d == 1) = false := beq_eq_false_iff_ne.2 hd0.2.1
  have e2 : (d == 2) = false := beq_eq_false_iff_ne.2 hd0.2.2.1
  have e3 : (d == 3) = false := beq_eq_false_iff_ne.2 hd0.2.2.2
  clear hd0
  go_upto_block 2 with (fail)
  clear tq1 tq2 tq3 tq4
  go_cut [16] from 85 to 229 (fun tl wx => tl = .bool true ∧ ∃ (C : Vals) (z0 z1 z2 z3 z4 z5 z6 z7 : Int), Hid (PI long C (k + 1)) ∧ Hid (PLw w wx b r T K long C C [K, T] z0 z1 z2 z3 z4 z5 z6 z7))
  case first =>
    have hhh := HHE.out.below hb9 hltl
    obtain ⟨l0, l1, l2, l3, l4, l5, l6, l7, l8, l9⟩ := hhh
    obtain ⟨W10, hW10⟩ : ∃ W, W = w9.alloc (.cells #[.int .i64 g0, .int .i64 t0, .int .i64 t1, .int .i64 t2, .int .i64 t3, .int .i64 u0, .int .i64 u1, .int .i64 u2, .int .i64 u3, .string s] 60) := ⟨_, rfl⟩
    obtain ⟨Y1, hY1⟩ : ∃ Y, Y = w9.heap.size := ⟨_, rfl⟩
    have hAN : Below w9.heap.size w9 W10 := by rw [hW10]; exact (Below.refl _ _).alloc (Nat.le_refl _) _
    have HOY1 : Hid (ObjAt W10 Y1 60 [.int .i64 g0, .int .i64 t0, .int .i64 t1, .int .i64 t2, .int .i64 t3, .int .i64 u0, .int .i64 u1, .int .i64 u2, .int .i64 u3, .string s]) := by rw [hW10, hY1]; exact ObjAt.new _ _ _
    have HP10 := hide (HP.out.add hAN (Y := Y1) (by omega) HOY1.out.lt)
    have nY1 : w9.heap.size ≤ Y1 := by omega
    go_upto_region 18 with (fail)
    rw [← hW10, ← hY1]
    clear hW10 hY1
    clear l0 l1 l2 l3 l4 l5 l6 l7 l8 l9 rd
    have rd := HRD.out _ HP10.out.bel
    have hwY : w.heap.size ≤ Y1 := Nat.le_trans hb9.size nY1
    have nTY : T ≠ Y1 := by have := HP.out.1.low T (by simp); omega
    have nKY : K ≠ Y1 := by have := HP.out.1.low K (by simp); omega
    clear hAN nY1 HP
    go_upto_region 21 with (fail)
    clear rd
    obtain ⟨k0, k1, k2, k3, k4, k5, k6, eb, f, C, hIC, hG, hR⟩ := pl_hello (B := w.heap.size) (b := b) (r := r) HI.out (by omega) g0 t0 t1 t2 t3 u0 u1 u2 u3 s (by have := HSZ.out; unfold maxLen at this; omega) tm
    simp only [plH, plA] at hG hR
    unfold GoG at hG
    unfold GoR at hR
    have HIC := hide hIC
    have HG := hide hG
    have HRR := hide hR
    clear hIC hG hR HI
    have HKS : Hid (∀ w' : World, Below W10.heap.size W10 w' → w'.cell? ⟨Y1, 0, none⟩ = some (.int .i64 g0) ∧ w'.cell? ⟨Y1, 1, none⟩ = some (.int .i64 t0) ∧ w'.cell? ⟨Y1, 2, none⟩ = some (.int .i64 t1) ∧ w'.cell? ⟨Y1, 3, none⟩ = some (.int .i64 t2) ∧ w'.cell? ⟨Y1, 4, none⟩ = some (.int .i64 t3) ∧ w'.cell? ⟨Y1, 5, none⟩ = some (.int .i64 u0) ∧ w'.cell? ⟨Y1, 6, none⟩ = some (.int .i64 u1) ∧ w'.cell? ⟨Y1, 7, none⟩ = some (.int .i64 u2) ∧ w'.cell? ⟨Y1, 8, none⟩ = some (.int .i64 u3) ∧ w'.cell? ⟨Y1, 9, none⟩ = some (.string s) ∧ w'.cell? ⟨bt, offt + k, none⟩ = some (.int .i64 tm)) := fun w' hB' => ⟨(HOY1.out.below hB').cell (i := 0) rfl, (HOY1.out.below hB').cell (i := 1) rfl, (HOY1.out.below hB').cell (i := 2) rfl, (HOY1.out.below hB').cell (i := 3) rfl, (HOY1.out.below hB').cell (i := 4) rfl, (HOY1.out.below hB').cell (i := 5) rfl, (HOY1.out.below hB').cell (i := 6) rfl, (HOY1.out.below hB').cell (i := 7) rfl, (HOY1.out.below hB').cell (i := 8) rfl, (HOY1.out.below hB').cell (i := 9) rfl, HTM.out _ (HP10.out.below hB').bel⟩
    have hrr := Below.refl W10.heap.size W10
    have KK0 := HKS.out _ hrr
    obtain ⟨m0, m1, m2, m3, m4, m5, m6, m7, m8, m9, m10⟩ := KK0
    have KK0 := HKS.out _ hrr
    have hY1l := HP10.out.1.low Y1 (by simp)
    have hTl := HP10.out.1.low T (by simp)
    have hKl := HP10.out.1.low K (by simp)
    have hsW := HP10.out.bel.size
    have nYW : Y1 ≠ W10.heap.size := Nat.ne_of_lt hY1l
    have nbW : bt ≠ W10.heap.size := Nat.ne_of_lt (Nat.lt_of_lt_of_le hltt hsW)
    have HPAD := hide (fun o => (PLw.addD HP10.out o).1)
    have HPDR := hide (PLw.drew HP10.out).1
    go_upto_region 21 with (fail)
    go_cut [32, 33] from 103 to 112 (fun p e wx => ∃ Y, p = .pointer (some ⟨Y, 0, none⟩) ∧ e = .int .i64 f ∧ Hid (PLw w wx b r T K long A C (Y :: Y1 :: [K, T]) x0 x1 x2 x3 y0 y1 y2 y3) ∧ Hid (ObjAt wx Y 62 [.int .i64 k0, .int .i64 k1, .int .i64 k2, .int .i64 k3, .int .i64 k4, .int .i64 k5, .int .i64 k6, .bool eb]) ∧ Hid (ObjAt wx Y1 60 [.int .i64 g0, .int .i64 t0, .int .i64 t1, .int .i64 t2, .int .i64 t3, .int .i64 u0, .int .i64 u1, .int .i64 u2, .int .i64 u3, .string s]) ∧ (w.heap.size ≤ Y ∧ T ≠ Y ∧ K ≠ Y))
    case first =>
      go_region_held3 (fun w' => w'.cell? ⟨Y1, 0, none⟩ = some (.int .i64 g0) ∧ w'.cell? ⟨Y1, 1, none⟩ = some (.int .i64 t0) ∧ w'.cell? ⟨Y1, 2, none⟩ = some (.int .i64 t1) ∧ w'.cell? ⟨Y1, 3, none⟩ = some (.int .i64 t2) ∧ w'.cell? ⟨Y1, 4, none⟩ = some (.int .i64 t3) ∧ w'.cell? ⟨Y1, 5, none⟩ = some (.int .i64 u0) ∧ w'.cell? ⟨Y1, 6, none⟩ = some (.int .i64 u1) ∧ w'.cell? ⟨Y1, 7, none⟩ = some (.int .i64 u2) ∧ w'.cell? ⟨Y1, 8, none⟩ = some (.int .i64 u3) ∧ w'.cell? ⟨Y1, 9, none⟩ = some (.string s) ∧ w'.cell? ⟨bt, offt + k, none⟩ = some (.int .i64 tm)) (first | with_reducible assumption | with_reducible (refine pl_keepA _ ?_ ?_ ?_ <;> assumption) | with_reducible (refine pl_keep8 nYW nbW ?_ _ _ _ _ _ _ _ _; assumption) | (refine HKS.out _ ?_; go_grown) | go_keep)
        (first
          | (go_at_call 17; (with_reducible refine (HG.out _ _ (HPAD.out _)).mono ?_); rintro e5 w10 ⟨rfl, hp10, hf10, hb10⟩; have HPc := hide ((PLw.addD HP10.out _).go hp10 hf10 hb10); have HHc := hide (hf10 Y1 (by simp) _ _ (HOY1.out.alloc _).drew); have HZc := hide (hf10 W10.heap.size (by simp) _ _ (ObjAt.new W10 62 [.int .i64 0, .int .i64 0, .int .i64 0, .int .i64 0, .int .i64 0, .int .i64 0, .int .i64 0, .bool false]).drew);  have KK : w10.cell? ⟨Y1, 0, none⟩ = some (.int .i64 g0) ∧ w10.cell? ⟨Y1, 1, none⟩ = some (.int .i64 t0) ∧ w10.cell? ⟨Y1, 2, none⟩ = some (.int .i64 t1) ∧ w10.cell? ⟨Y1, 3, none⟩ = some (.int .i64 t2) ∧ w10.cell? ⟨Y1, 4, none⟩ = some (.int .i64 t3) ∧ w10.cell? ⟨Y1, 5, none⟩ = some (.int .i64 u0) ∧ w10.cell? ⟨Y1, 6, none⟩ = some (.int .i64 u1) ∧ w10.cell? ⟨Y1, 7, none⟩ = some (.int .i64 u2) ∧ w10.cell? ⟨Y1, 8, none⟩ = some (.int .i64 u3) ∧ w10.cell? ⟨Y1, 9, none⟩ = some (.string s) ∧ w10.cell? ⟨bt, offt + k, none⟩ = some (.int .i64 tm) := ⟨HHc.out.cell (i := 0) rfl, HHc.out.cell (i := 1) rfl, HHc.out.cell (i := 2) rfl, HHc.out.cell (i := 3) rfl, HHc.out.cell (i := 4) rfl, HHc.out.cell (i := 5) rfl, HHc.out.cell (i := 6) rfl, HHc.out.cell (i := 7) rfl, HHc.out.cell (i := 8) rfl, HHc.out.cell (i := 9) rfl, HTM.out _ HPc.out.bel⟩; obtain ⟨q0, q1, q2, q3, q4, q5, q6, q7, p0, p1, p2, p3, p4, p5, p6, p7⟩ := obj_cells8 HZc.out; have hY10 := HPc.out.1.low Y1 (by simp); have hbt10 : bt < w10.heap.size := Nat.lt_of_lt_of_le hltt HPc.out.bel.size; clear hp10 hf10 hb10)
          | (go_at_call 17; (with_reducible refine (HG.out _ _ HPDR.out).mono ?_); rintro e5 w10 ⟨rfl, hp10, hf10, hb10⟩; have HPc := hide ((PLw.drew HP10.out).go hp10 hf10 hb10); have HHc := hide (hf10 Y1 (by simp) _ _ HOY1.out.drew);  have KK : w10.cell? ⟨Y1, 0, none⟩ = some (.int .i64 g0) ∧ w10.cell? ⟨Y1, 1, none⟩ = some (.int .i64 t0) ∧ w10.cell? ⟨Y1, 2, none⟩ = some (.int .i64 t1) ∧ w10.cell? ⟨Y1, 3, none⟩ = some (.int .i64 t2) ∧ w10.cell? ⟨Y1, 4, none⟩ = some (.int .i64 t3) ∧ w10.cell? ⟨Y1, 5, none⟩ = some (.int .i64 u0) ∧ w10.cell? ⟨Y1, 6, none⟩ = some (.int .i64 u1) ∧ w10.cell? ⟨Y1, 7, none⟩ = some (.int .i64 u2) ∧ w10.cell? ⟨Y1, 8, none⟩ = some (.int .i64 u3) ∧ w10.cell? ⟨Y1, 9, none⟩ = some (.string s) ∧ w10.cell? ⟨bt, offt + k, none⟩ = some (.int .i64 tm) := ⟨HHc.out.cell (i := 0) rfl, HHc.out.cell (i := 1) rfl, HHc.out.cell (i := 2) rfl, HHc.out.cell (i := 3) rfl, HHc.out.cell (i := 4) rfl, HHc.out.cell (i := 5) rfl, HHc.out.cell (i := 6) rfl, HHc.out.cell (i := 7) rfl, HHc.out.cell (i := 8) rfl, HHc.out.cell (i := 9) rfl, HTM.out _ HPc.out.bel⟩; have hY10 := HPc.out.1.low Y1 (by simp); have hbt10 : bt < w10.heap.size := Nat.lt_of_lt_of_le hltt HPc.out.bel.size; clear hp10 hf10 hb10))
      all_goals clear HKS KK0 m0 m1 m2 m3 m4 m5 m6 m7 m8 m9 m10 hrr KK
      all_goals first
        | (obtain ⟨Wn, hWn⟩ : ∃ W, W = w10.alloc (.cells #[.int .i64 k0, .int .i64 k1, .int .i64 k2, .int .i64 k3, .int .i64 k4, .int .i64 k5, .int .i64 k6, .bool eb] 62) := ⟨_, rfl⟩
           rw [← hWn]
           have hR1 : PLw w Wn b r T K long A C (w10.heap.size :: Y1 :: [K, T]) x0 x1 x2 x3 y0 y1 y2 y3 := by rw [hWn]; exact HPc.out.add ((Below.refl _ _).alloc (Nat.le_refl _) _) (Nat.le_refl _) (by simp)
           have hR2 : ObjAt Wn w10.heap.size 62 [.int .i64 k0, .int .i64 k1, .int .i64 k2, .int .i64 k3, .int .i64 k4, .int .i64 k5, .int .i64 k6, .bool eb] := by rw [hWn]; exact ObjAt.new _ _ _
           have hR3 : ObjAt Wn Y1 60 [.int .i64 g0, .int .i64 t0, .int .i64 t1, .int .i64 t2, .int .i64 t3, .int .i64 u0, .int .i64 u1, .int .i64 u2, .int .i64 u3, .string s] := by rw [hWn]; exact HHc.out.alloc _
           have hR4 : w.heap.size ≤ w10.heap.size ∧ T ≠ w10.heap.size ∧ K ≠ w10.heap.size := ⟨HPc.out.bel.size, Nat.ne_of_lt (HPc.out.1.low T (by simp)), Nat.ne_of_lt (HPc.out.1.low K (by simp))⟩
           clear hWn
           go_wp2
           go_meet
           case rel => exact ⟨_, rfl, rfl, hide hR1, hide hR2, hide hR3, hR4⟩)
        | (obtain ⟨Wn, hWn⟩ : ∃ W, W = ((((((((w10.setCell ⟨W10.heap.size, 0, none⟩ (.int .i64 k0)).setCell ⟨W10.heap.size, 1, none⟩ (.int .i64 k1)).setCell ⟨W10.heap.size, 2, none⟩ (.int .i64 k2)).setCell ⟨W10.heap.size, 3, none⟩ (.int .i64 k3)).setCell ⟨W10.heap.size, 4, none⟩ (.int .i64 k4)).setCell ⟨W10.heap.size, 5, none⟩ (.int .i64 k5)).setCell ⟨W10.heap.size, 6, none⟩ (.int .i64 k6)).setCell ⟨W10.heap.size, 7, none⟩ (.bool eb)) := ⟨_, rfl⟩
           rw [← hWn]
           have hR1 : PLw w Wn b r T K long A C (W10.heap.size :: Y1 :: [K, T]) x0 x1 x2 x3 y0 y1 y2 y3 := by rw [hWn]; exact HPc.out.set8 (Y := W10.heap.size) (by simp) (Nat.ne_of_lt hTl) (Nat.ne_of_lt hKl) hsW _ _ _ _ _ _ _ _
           have hR2 : ObjAt Wn W10.heap.size 62 [.int .i64 k0, .int .i64 k1, .int .i64 k2, .int .i64 k3, .int .i64 k4, .int .i64 k5, .int .i64 k6, .bool eb] := by rw [hWn]; exact obj_set8 HZc.out _ _ _ _ _ _ _ _
           have hR3 : ObjAt Wn Y1 60 [.int .i64 g0, .int .i64 t0, .int .i64 t1, .int .i64 t2, .int .i64 t3, .int .i64 u0, .int .i64 u1, .int .i64 u2, .int .i64 u3, .string s] := by rw [hWn]; exact pl_other8 HHc.out nYW _ _ _ _ _ _ _ _
           have hR4 : w.heap.size ≤ W10.heap.size ∧ T ≠ W10.heap.size ∧ K ≠ W10.heap.size := ⟨hsW, Nat.ne_of_lt hTl, Nat.ne_of_lt hKl⟩
           clear hWn q0 q1 q2 q3 q4 q5 q6 q7 p0 p1 p2 p3 p4 p5 p6 p7
           go_wp2
           go_meet
           case rel => exact ⟨_, rfl, rfl, hide hR1, hide hR2, hide hR3, hR4⟩)
    case rest =>
      obtain ⟨Y2, rfl, rfl, HP2, HW2, HH2, nw2, nT2, nK2⟩ := hcut
      obtain ⟨w20, rfl⟩ : ∃ x, x = wc := ⟨wc, rfl⟩
      clear nYW nbW HPAD HPDR HKS hrr KK0 m0 m1 m2 m3 m4 m5 m6 m7 m8 m9 m10 hY1l hTl hKl hsW HG HP10 HOY1
      go_wp2_with fail
      have HKS : Hid (∀ w' : World, Below w20.heap.size w20 w' → w'.cell? ⟨Y1, 0, none⟩ = some (.int .i64 g0) ∧ w'.cell? ⟨Y1, 1, none⟩ = some (.int .i64 t0) ∧ w'.cell? ⟨Y1, 2, none⟩ = some (.int .i64 t1) ∧ w'.cell? ⟨Y1, 3, none⟩ = some (.int .i64 t2) ∧ w'.cell? ⟨Y1, 4, none⟩ = some (.int .i64 t3) ∧ w'.cell? ⟨Y1, 5, none⟩ = some (.int .i64 u0) ∧ w'.cell? ⟨Y1, 6, none⟩ = some (.int .i64 u1) ∧ w'.cell? ⟨Y1, 7, none⟩ = some (.int .i64 u2) ∧ w'.cell? ⟨Y1, 8, none⟩ = some (.int .i64 u3) ∧ w'.cell? ⟨Y1, 9, none⟩ = some (.string s) ∧ w'.cell? ⟨bt, offt + k, none⟩ = some (.int .i64 tm)) := fun w' hB' => ⟨(HH2.out.below hB').cell (i := 0) rfl, (HH2.out.below hB').cell (i := 1) rfl, (HH2.out.below hB').cell (i := 2) rfl, (HH2.out.below hB').cell (i := 3) rfl, (HH2.out.below hB').cell (i := 4) rfl, (HH2.out.below hB').cell (i := 5) rfl, (HH2.out.below hB').cell (i := 6) rfl, (HH2.out.below hB').cell (i := 7) rfl, (HH2.out.below hB').cell (i := 8) rfl, (HH2.out.below hB').cell (i := 9) rfl, HTM.out _ (HP2.out.below hB').bel⟩
      have hrr := Below.refl w20.heap.size w20
      have KK0 := HKS.out _ hrr
      obtain ⟨m0, m1, m2, m3, m4, m5, m6, m7, m8, m9, m10⟩ := KK0
      have KK0 := HKS.out _ hrr
      have hY1l := HP2.out.1.low Y1 (by simp)
      have hTl := HP2.out.1.low T (by simp)
      have hKl := HP2.out.1.low K (by simp)
      have hsW := HP2.out.bel.size
      have nYW : Y1 ≠ w20.heap.size := Nat.ne_of_lt hY1l
      have nbW : bt ≠ w20.heap.size := Nat.ne_of_lt (Nat.lt_of_lt_of_le hltt hsW)
      have HPAD := hide (fun o => (PLw.addD HP2.out o).1)
      have HPDR := hide (PLw.drew HP2.out).1
      go_upto_region 22 with (fail)
      go_cut [34, 35] from 113 to 122 (fun p e wx => ∃ Y, p = .pointer (some ⟨Y, 0, none⟩) ∧ e = errV f ∧ Hid (PLw w wx b r T K long C C (Y :: Y2 :: Y1 :: [K, T]) x0 x1 x2 x3 y0 y1 y2 y3) ∧ Hid (ObjAt wx Y 62 [.int .i64 k0, .int .i64 k1, .int .i64 k2, .int .i64 k3, .int .i64 k4, .int .i64 k5, .int .i64 k6, .bool eb]) ∧ Hid (ObjAt wx Y1 60 [.int .i64 g0, .int .i64 t0, .int .i64 t1, .int .i64 t2, .int .i64 t3, .int .i64 u0, .int .i64 u1, .int .i64 u2, .int .i64 u3, .string s]) ∧ (w.heap.size ≤ Y ∧ T ≠ Y ∧ K ≠ Y) ∧ Hid (ObjAt wx Y2 62 [.int .i64 k0, .int .i64 k1, .int .i64 k2, .int .i64 k3, .int .i64 k4, .int .i64 k5, .int .i64 k6, .bool eb]))
      case first =>
        go_region_held3 (fun w' => w'.cell? ⟨Y1, 0, none⟩ = some (.int .i64 g0) ∧ w'.cell? ⟨Y1, 1, none⟩ = some (.int .i64 t0) ∧ w'.cell? ⟨Y1, 2, none⟩ = some (.int .i64 t1) ∧ w'.cell? ⟨Y1, 3, none⟩ = some (.int .i64 t2) ∧ w'.cell? ⟨Y1, 4, none⟩ = some (.int .i64 t3) ∧ w'.cell? ⟨Y1, 5, none⟩ = some (.int .i64 u0) ∧ w'.cell? ⟨Y1, 6, none⟩ = some (.int .i64 u1) ∧ w'.cell? ⟨Y1, 7, none⟩ = some (.int .i64 u2) ∧ w'.cell? ⟨Y1, 8, none⟩ = some (.int .i64 u3) ∧ w'.cell? ⟨Y1, 9, none⟩ = some (.string s) ∧ w'.cell? ⟨bt, offt + k, none⟩ = some (.int .i64 tm)) (first | with_reducible assumption | with_reducible (refine pl_keepA _ ?_ ?_ ?_ <;> assumption) | with_reducible (refine pl_keep8 nYW nbW ?_ _ _ _ _ _ _ _ _; assumption) | (refine HKS.out _ ?_; go_grown) | go_keep)
          (first
            | (go_at_call 18; (with_reducible refine (HRR.out _ _ (HPAD.out _)).mono ?_); rintro e5 w10 ⟨rfl, hp10, hf10, hb10⟩; have HPc := hide ((PLw.addD HP2.out _).go hp10 hf10 hb10); have HHc := hide (hf10 Y1 (by simp) _ _ (HH2.out.alloc _).drew); have HZc := hide (hf10 w20.heap.size (by simp) _ _ (ObjAt.new w20 62 [.int .i64 0, .int .i64 0, .int .i64 0, .int .i64 0, .int .i64 0, .int .i64 0, .int .i64 0, .bool false]).drew); have HXc := hide (hf10 Y2 (by simp) _ _ (HW2.out.alloc _).drew);  have KK : w10.cell? ⟨Y1, 0, none⟩ = some (.int .i64 g0) ∧ w10.cell? ⟨Y1, 1, none⟩ = some (.int .i64 t0) ∧ w10.cell? ⟨Y1, 2, none⟩ = some (.int .i64 t1) ∧ w10.cell? ⟨Y1, 3, none⟩ = some (.int .i64 t2) ∧ w10.cell? ⟨Y1, 4, none⟩ = some (.int .i64 t3) ∧ w10.cell? ⟨Y1, 5, none⟩ = some (.int .i64 u0) ∧ w10.cell? ⟨Y1, 6, none⟩ = some (.int .i64 u1) ∧ w10.cell? ⟨Y1, 7, none⟩ = some (.int .i64 u2) ∧ w10.cell? ⟨Y1, 8, none⟩ = some (.int .i64 u3) ∧ w10.cell? ⟨Y1, 9, none⟩ = some (.string s) ∧ w10.cell? ⟨bt, offt + k, none⟩ = some (.int .i64 tm) := ⟨HHc.out.cell (i := 0) rfl, HHc.out.cell (i := 1) rfl, HHc.out.cell (i := 2) rfl, HHc.out.cell (i := 3) rfl, HHc.out.cell (i := 4) rfl, HHc.out.cell (i := 5) rfl, HHc.out.cell (i := 6) rfl, HHc.out.cell (i := 7) rfl, HHc.out.cell (i := 8) rfl, HHc.out.cell (i := 9) rfl, HTM.out _ HPc.out.bel⟩; obtain ⟨q0, q1, q2, q3, q4, q5, q6, q7, p0, p1, p2, p3, p4, p5, p6, p7⟩ := obj_cells8 HZc.out; have hY10 := HPc.out.1.low Y1 (by simp); have hbt10 : bt < w10.heap.size := Nat.lt_of_lt_of_le hltt HPc.out.bel.size; clear hp10 hf10 hb10)
            | (go_at_call 18; (with_reducible refine (HRR.out _ _ HPDR.out).mono ?_); rintro e5 w10 ⟨rfl, hp10, hf10, hb10⟩; have HPc := hide ((PLw.drew HP2.out).go hp10 hf10 hb10); have HHc := hide (hf10 Y1 (by simp) _ _ HH2.out.drew); have HXc := hide (hf10 Y2 (by simp) _ _ HW2.out.drew);  have KK : w10.cell? ⟨Y1, 0, none⟩ = some (.int .i64 g0) ∧ w10.cell? ⟨Y1, 1, none⟩ = some (.int .i64 t0) ∧ w10.cell? ⟨Y1, 2, none⟩ = some (.int .i64 t1) ∧ w10.cell? ⟨Y1, 3, none⟩ = some (.int .i64 t2) ∧ w10.cell? ⟨Y1, 4, none⟩ = some (.int .i64 t3) ∧ w10.cell? ⟨Y1, 5, none⟩ = some (.int .i64 u0) ∧ w10.cell? ⟨Y1, 6, none⟩ = some (.int .i64 u1) ∧ w10.cell? ⟨Y1, 7, none⟩ = some (.int .i64 u2) ∧ w10.cell? ⟨Y1, 8, none⟩ = some (.int .i64 u3) ∧ w10.cell? ⟨Y1, 9, none⟩ = some (.string s) ∧ w10.cell? ⟨bt, offt + k, none⟩ = some (.int .i64 tm) := ⟨HHc.out.cell (i := 0) rfl, HHc.out.cell (i := 1) rfl, HHc.out.cell (i := 2) rfl, HHc.out.cell (i := 3) rfl, HHc.out.cell (i := 4) rfl, HHc.out.cell (i := 5) rfl, HHc.out.cell (i := 6) rfl, HHc.out.cell (i := 7) rfl, HHc.out.cell (i := 8) rfl, HHc.out.cell (i := 9) rfl, HTM.out _ HPc.out.bel⟩; have hY10 := HPc.out.1.low Y1 (by simp); have hbt10 : bt < w10.heap.size := Nat.lt_of_lt_of_le hltt HPc.out.bel.size; clear hp10 hf10 hb10))
        all_goals clear HKS KK0 m0 m1 m2 m3 m4 m5 m6 m7 m8 m9 m10 hrr KK
        all_goals first
          | (obtain ⟨Wn, hWn⟩ : ∃ W, W = w10.alloc (.cells #[.int .i64 k0, .int .i64 k1, .int .i64 k2, .int .i64 k3, .int .i64 k4, .int .i64 k5, .int .i64 k6, .bool eb] 62) := ⟨_, rfl⟩
             rw [← hWn]
             have hR1 : PLw w Wn b r T K long C C (w10.heap.size :: Y2 :: Y1 :: [K, T]) x0 x1 x2 x3 y0 y1 y2 y3 := by rw [hWn]; exact HPc.out.add ((Below.refl _ _).alloc (Nat.le_refl _) _) (Nat.le_refl _) (by simp)
             have hR2 : ObjAt Wn w10.heap.size 62 [.int .i64 k0, .int .i64 k1, .int .i64 k2, .int .i64 k3, .int .i64 k4, .int .i64 k5, .int .i64 k6, .bool eb] := by rw [hWn]; exact ObjAt.new _ _ _
             have hR3 : ObjAt Wn Y1 60 [.int .i64 g0, .int .i64 t0, .int .i64 t1, .int .i64 t2, .int .i64 t3, .int .i64 u0, .int .i64 u1, .int .i64 u2, .int .i64 u3, .string s] := by rw [hWn]; exact HHc.out.alloc _
             have hR4 : w.heap.size ≤ w10.heap.size ∧ T ≠ w10.heap.size ∧ K ≠ w10.heap.size := ⟨HPc.out.bel.size, Nat.ne_of_lt (HPc.out.1.low T (by simp)), Nat.ne_of_lt (HPc.out.1.low K (by simp))⟩
             have hR5 : ObjAt Wn Y2 62 [.int .i64 k0, .int .i64 k1, .int .i64 k2, .int .i64 k3, .int .i64 k4, .int .i64 k5, .int .i64 k6, .bool eb] := by rw [hWn]; exact HXc.out.alloc _
             clear hWn
             go_wp2
             go_meet
             case rel => exact ⟨_, rfl, rfl, hide hR1, hide hR2, hide hR3, hR4, hide hR5⟩)
          | (obtain ⟨Wn, hWn⟩ : ∃ W, W = ((((((((w10.setCell ⟨w20.heap.size, 0, none⟩ (.int .i64 k0)).setCell ⟨w20.heap.size, 1, none⟩ (.int .i64 k1)).setCell ⟨w20.heap.size, 2, none⟩ (.int .i64 k2)).setCell ⟨w20.heap.size, 3, none⟩ (.int .i64 k3)).setCell ⟨w20.heap.size, 4, none⟩ (.int .i64 k4)).setCell ⟨w20.heap.size, 5, none⟩ (.int .i64 k5)).setCell ⟨w20.heap.size, 6, none⟩ (.int .i64 k6)).setCell ⟨w20.heap.size, 7, none⟩ (.bool eb)) := ⟨_, rfl⟩
             rw [← hWn]
             have hR1 : PLw w Wn b r T K long C C (w20.heap.size :: Y2 :: Y1 :: [K, T]) x0 x1 x2 x3 y0 y1 y2 y3 := by rw [hWn]; exact HPc.out.set8 (Y := w20.heap.size) (by simp) (Nat.ne_of_lt hTl) (Nat.ne_of_lt hKl) hsW _ _ _ _ _ _ _ _
             have hR2 : ObjAt Wn w20.heap.size 62 [.int .i64 k0, .int .i64 k1, .int .i64 k2, .int .i64 k3, .int .i64 k4, .int .i64 k5, .int .i64 k6, .bool eb] := by rw [hWn]; exact obj_set8 HZc.out _ _ _ _ _ _ _ _
             have hR3 : ObjAt Wn Y1 60 [.int .i64 g0, .int .i64 t0, .int .i64 t1, .int .i64 t2, .int .i64 t3, .int .i64 u0, .int .i64 u1, .int .i64 u2, .int .i64 u3, .string s] := by rw [hWn]; exact pl_other8 HHc.out nYW _ _ _ _ _ _ _ _
             have hR4 : w.heap.size ≤ w20.heap.size ∧ T ≠ w20.heap.size ∧ K ≠ w20.heap.size := ⟨hsW, Nat.ne_of_lt hTl, Nat.ne_of_lt hKl⟩
             have hR5 : ObjAt Wn Y2 62 [.int .i64 k0, .int .i64 k1, .int .i64 k2, .int .i64 k3, .int .i64 k4, .int .i64 k5, .int .i64 k6, .bool eb] := by rw [hWn]; exact pl_other8 HXc.out (Nat.ne_of_lt (HP2.out.1.low Y2 (by simp))) _ _ _ _ _ _ _ _
             clear hWn q0 q1 q2 q3 q4 q5 q6 q7 p0 p1 p2 p3 p4 p5 p6 p7
             go_wp2
             go_meet
             case rel => exact ⟨_, rfl, rfl, hide hR1, hide hR2, hide hR3, hR4, hide hR5⟩)
      case rest =>
        obtain ⟨Y3, rfl, rfl, HP3, HX3, HH3, ⟨nw3, nT3, nK3⟩, HW3⟩ := hcut
        obtain ⟨w30, rfl⟩ : ∃ x, x = wc := ⟨wc, rfl⟩
        clear nYW nbW HPAD HPDR HKS hrr KK0 m0 m1 m2 m3 m4 m5 m6 m7 m8 m9 m10 hY1l hTl hKl hsW HRR HP2 HW2 HH2 HH3
        go_wp2_with fail
        refine (HE.out f _ HP3.out.bel).mono ?_
        rintro rr w31 ⟨rfl, hb31⟩
        have HP4 := hide (HP3.out.below hb31)
        have HO1 := hide (HX3.out.below hb31)
        have HO2 := hide (HW3.out.below hb31)
        clear hb31 HX3 HW3 HP3
        have c0 := HO1.out.cell (i := 0) rfl
        have e0' := HO2.out.cell (i := 0) rfl
        have c1 := HO1.out.cell (i := 1) rfl
        have e1' := HO2.out.cell (i := 1) rfl
        have c2 := HO1.out.cell (i := 2) rfl
        have e2' := HO2.out.cell (i := 2) rfl
        have c3 := HO1.out.cell (i := 3) rfl
        have e3' := HO2.out.cell (i := 3) rfl
        have c4 := HO1.out.cell (i := 4) rfl
        have e4' := HO2.out.cell (i := 4) rfl
        have c5 := HO1.out.cell (i := 5) rfl
        have e5' := HO2.out.cell (i := 5) rfl
        have c6 := HO1.out.cell (i := 6) rfl
        have e6' := HO2.out.cell (i := 6) rfl
        have c7 := HO1.out.cell (i := 7) rfl
        have e7' := HO2.out.cell (i := 7) rfl
        by_cases hf0 : f = 0
        · have tf0 : (f == 0) = true := by simp [hf0]
          clear hf0
          by_cases hk0 : k0 = 0
          ·
            have tk0 : (k0 == 0) = true := by simp [hk0]
            clear hk0
            have HTO := hide HP4.out.2.1
            have z0 := HTO.out.cell (i := 0) rfl
            have z1 := HTO.out.cell (i := 1) rfl
            have z2 := HTO.out.cell (i := 2) rfl
            have z3 := HTO.out.cell (i := 3) rfl
            have fz0 := HTO.out.free 0
            have fz1 := HTO.out.free 1
            have fz2 := HTO.out.free 2
            have fz3 := HTO.out.free 3
            obtain ⟨W32, hW32⟩ : ∃ W, W = (((w31.setCell ⟨T, 0, none⟩ (.int .i64 k1)).setCell ⟨T, 1, none⟩ (.int .i64 k2)).setCell ⟨T, 2, none⟩ (.int .i64 k3)).setCell ⟨T, 3, none⟩ (.int .i64 k4) := ⟨_, rfl⟩
            have HP5 : Hid (PLw w W32 b r T K long C C (Y3 :: Y2 :: Y1 :: [K, T]) k1 k2 k3 k4 y0 y1 y2 y3) := by rw [hW32]; exact HP4.out.setT hwT k1 k2 k3 k4
            go_wp2
            rw [← hW32]
            clear hW32 z0 z1 z2 z3 fz0 fz1 fz2 fz3 HTO c0 e0' c1 e1' c2 e2' c3 e3' c4 e4' c5 e5' c6 e6' c7 e7' HO1 HO2 HP4
            try go_wp2
            go_meet
            case rel => exact ⟨rfl, C, k1, k2, k3, k4, y0, y1, y2, y3, HIC, hide HP5.out.drop⟩
          · have tk0 : (k0 == 0) = false := beq_eq_false_iff_ne.2 hk0
            clear hk0
            go_wp2
            clear c0 e0' c1 e1' c2 e2' c3 e3' c4 e4' c5 e5' c6 e6' c7 e7' HO1 HO2
            try go_wp2
            go_meet
            case rel => exact ⟨rfl, C, x0, x1, x2, x3, y0, y1, y2, y3, HIC, hide HP4.out.drop⟩
        · have tf0 : (f == 0) = false := beq_eq_false_iff_ne.2 hf0
          clear hf0
          go_wp2
          clear c0 e0' c1 e1' c2 e2' c3 e3' c4 e4' c5 e5' c6 e6' c7 e7' HO1 HO2
          try go_wp2
          go_meet
          case rel => exact ⟨rfl, C, x0, x1, x2, x3, y0, y1, y2, y3, HIC, hide HP4.out.drop⟩
  case rest =>
    obtain ⟨rfl, C, z0, z1, z2, z3, z4, z5, z6, z7, HIC, HPC⟩ := hcut
    obtain ⟨w60, rfl⟩ : ∃ x, x = wc := ⟨wc, rfl⟩
    clear HP HI rd HTM HRD HHE HSZ
    obtain ⟨aq, cq, hqc⟩ := HPC.out.1.que
    have hqb : ∀ w' : World, Below w60.heap.size w60 w' → w'.cell? ⟨r, 4, none⟩ = some (.slice aq (C).zs.length cq) := fun w' hB' => (hB'.cell (p := ⟨r, 4, none⟩) (by
      rcases Nat.lt_or_ge r w60.heap.size with h | h
      · exact h
      · simp [World.cell?, Array.getElem?_eq_none h] at hqc)).trans hqc
    have HQB := hide hqb
    have hzl : (C).zs.length ≤ 8 := HIC.out.2.2.1
    obtain ⟨zl, hzl2⟩ : ∃ zl, zl = (C).zs.length := ⟨_, rfl⟩
    have HWT : Hid (∀ W', Below w60.heap.size w60 W' → Calls Tryz.prog 19 #[.pointer (some ⟨b, 0, none⟩)] W' fun x w' => x = .returned (.int .i64 (zl : Int)) ∧ Below W'.heap.size W' w') := fun W' hB' => by rw [hzl2]; exact (HPC.out.1.below hB').wait
    rw [← hzl2] at HQB hqc hzl
    have HB9 := hide HPC.out.bel
    clear hqb hzl2
    have hrr := Below.refl w60.heap.size w60
    go_wp2_with fail
    go_region_held3 (fun w' => w'.cell? ⟨r, 4, none⟩ = some (.slice aq zl cq)) (first | with_reducible assumption | exact HQB.out _ (by assumption) | (refine HQB.out _ ?_; go_grown) | go_keep)
      (first | (go_at_call 19; refine (HWT.out _ (by go_grown)).mono ?_; rintro e5 w50 ⟨rfl, hb50⟩; have hw50 : Below w60.heap.size w60 w50 := Below.trans (by go_grown) (Below.mono hb50 (by first | omega | (simp; done) | (simp; omega))); have KK := HQB.out _ hw50; clear hb50))
    all_goals (have HPF := hide (HPC.out.below hw50))
    all_goals clear hrr HWT HQB hqc
    all_goals go_wp2
    all_goals exact hend.out _ _ _ _ _ _ _ _ _ _ _ _ _ _ _ _ _ _ _ _ _ _ _ _ _ _ _ _ _ _ _ _ _ _ _ _ _ _ _ _ _ _ _ _ _ _ _ _ _ _ _ _ _ _ _ _ _ _ _ _ _ _ _ _ _ _ _ _ _ _ _ _ _ _ _ _ _ _ _ _ _ _ _ _ _ _ _ _ _ _ _ _ _ _ _ _ _ _ _ _ _ _ _ _ _ _ _ _ _ _ _ _ _ _ _ _ _ _ _ _ _ _ _ _ _ _ _ _ _ _ _ _ _ _ _ _ _ _ _ _ _ _ _ _ _ _ _ _ _ _ _ _ _ _ _ _ _ _ _ _ _ _ _ _ _ _ _ _ _ _ _ _ _ _ _ _ _ _ _ _ _ _ _ _ _ _ _ _ _ _ _ _ _ _ _ _ C z0 z1 z2 z3 z4 z5 z6 z7 _ HIC (hide (HPF.out.drop))
end Go.Proofs.YtkkmlolnikomdaaGreatDoor
