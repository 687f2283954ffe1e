/- The walk of ServerPlays. From the listed variable errors.errorType to its cell; a world that meets the condition. -/
import Derived.Test.YtkkmlolnikomdaaGreatDoorSP0
import Derived.Test.YtkkmlolnikomdaaGreatDoorSP1
import Derived.Test.YtkkmlolnikomdaaGreatDoorSP2
import Derived.Test.YtkkmlolnikomdaaGreatDoorSP3
import Derived.Test.YtkkmlolnikomdaaGreatDoorSP4
import Derived.Test.YtkkmlolnikomdaaGreatDoorSP5
import Derived.Test.YtkkmlolnikomdaaGreatDoorServerPlaysProofM30
import Derived.Test.YtkkmlolnikomdaaGreatDoorServerPlaysProofM16
import Derived.Deep.DeepCutAuto
import Derived.Deep.CutBlock
import Derived.Test.YtkkmlolnikomdaaGreatDoorRows
import Derived.Test.YtkkmlolnikomdaaGreatDoorErr
import Derived.ProofKit
import Derived.ChangeSame
import Derived.ChangeVars
import Derived.JoinedOf
import Derived.RowKit
import Derived.RowKitTokens
import Derived.LaidLaws
import Derived.LaidHandle
import Derived.Stop.Joined
namespace Go.Proofs.YtkkmlolnikomdaaGreatDoor
open Go.RowKit

set_option maxRecDepth 100000 in
set_option maxHeartbeats 32000000 in
theorem walkServerPlays (w : World) (seed : Int) (_w0 : (Lit.int .i64 seed).wf = true) (long : Int) (_w1 : (Lit.int .i64 long).wf = true) (a : Option Addr) (len cap : Nat) (dd : List Int) (_hl : len ≤ cap) (_hc : cap ≤ maxLen) (hr : IntRow w a len dd) (a2 : Option Addr) (len2 cap2 : Nat) (_z : Unit) (_hl2 : len2 ≤ cap2) (_hc2 : cap2 ≤ maxLen) (hr2 : HelloRow w a2 len2) (a3 : Option Addr) (len3 cap3 : Nat) (tt : List Int) (_hl3 : len3 ≤ cap3) (_hc3 : cap3 ≤ maxLen) (hr3 : IntRow w a3 len3 tt) (hE : ErrT w) :
    Calls Tryz.prog 3 #[.int .i64 seed, .int .i64 long, .slice a len cap, .slice a2 len2 cap2, .slice a3 len3 cap3] w fun r w' => r = .returned (.bool true) ∧ Below w.heap.size w w' := by
  have hm : len ≤ maxLen := hr.2.1
  have hm2 : len2 ≤ maxLen := hr2.1
  have hm3 : len3 ≤ maxLen := hr3.2.1
  unfold maxLen at hm hm2 hm3
  have HR := hide hr.split
  have HR2 := hide hr2.2
  have HR3 := hide hr3.split
  have HE := hide (fun (c : Int) W (hb : Below w.heap.size w W) => error_self c W (hE.below hb hE.pos))
  clear hr hr2 hr3 _w0 _w1 _hl _hc _hl2 _hc2 _hl3 _hc3 hE
  have I := hide (fun W => rIn_eq (n := seed) rfl W)
  have TM := hide (fun W => rTime_eq (n := long) rfl W)
  go_enter Tryz.func3, Tryz.ntmps3
  cases hs : inB seed
  · rw [hs] at I
    have SN := hide (sNew_bad1 (li := long) hs w)
    clear hs
    go_wp2_with fail
    refine (I.out _).mono ?_
    rintro r w1 ⟨rfl, rfl⟩
    go_wp2_with fail
    refine (TM.out _).mono ?_
    rintro r w1 ⟨rfl, rfl⟩
    go_wp2_with fail
    refine SN.out.mono ?_
    rintro r w6 ⟨rfl, hb6⟩
    go_wp2_with fail
    refine (HE.out 1 _ hb6).mono ?_
    rintro r w7 ⟨rfl, hb7⟩
    go_wp2
    go_ret
    exact ⟨rfl, hb6.trans (hb7.mono hb6.size)⟩
  · rw [hs] at I
    cases hl : tmB long
    · rw [hl] at TM
      have SN := hide (sNew_bad2 hs hl w)
      clear hs hl
      go_wp2_with fail
      refine (I.out _).mono ?_
      rintro r w1 ⟨rfl, rfl⟩
      go_wp2_with fail
      refine (TM.out _).mono ?_
      rintro r w1 ⟨rfl, rfl⟩
      go_wp2_with fail
      refine SN.out.mono ?_
      rintro r w6 ⟨rfl, hb6⟩
      go_wp2_with fail
      refine (HE.out 1 _ hb6).mono ?_
      rintro r w7 ⟨rfl, hb7⟩
      go_wp2
      go_ret
      exact ⟨rfl, hb6.trans (hb7.mono hb6.size)⟩
    · rw [hl] at TM
      have SN := hide (svNew hs hl w)
      have RN := hide (fun W => rsNew (li := long) hs W)
      have hk := ringNew_key hs
      generalize tagOf seed [0] = K0 at SN RN hk
      have HLI := hide hl
      clear hs hl
      go_wp2_with fail
      refine (I.out _).mono ?_
      rintro r w1 ⟨rfl, rfl⟩
      go_wp2_with fail
      refine (TM.out _).mono ?_
      rintro r w1 ⟨rfl, rfl⟩
      go_wp2_with fail
      refine SN.out.mono ?_
      rintro rr w2 ⟨b, q, bi, bb, bv, rfl, hS2, hB2⟩
      have HS2 := hide hS2
      clear hS2 SN I TM
      go_wp2_with fail
      refine (HE.out 0 _ hB2).mono ?_
      rintro rr w3 ⟨rfl, hb3⟩
      have hB3 : Below w.heap.size w w3 := hB2.trans (hb3.mono hB2.size)
      have HS3 := hide (HS2.out.below hb3)
      clear hb3 HS2 hB2
      go_wp2_with fail
      refine (RN.out _).mono ?_
      rintro rr w4 ⟨r, rfl, hrn, hV4, hb4⟩
      have hB4 : Below w.heap.size w w4 := hB3.trans (hb4.mono hB3.size)
      have hP4 : PA w4 w.heap.size b r long ⟨0, K0, 0, 0, 0, 0, 0, [], [], []⟩ ⟨0, K0, 0, 0, 0, 0, 0, [], [], []⟩ [] :=
        ⟨_, _, ⟨q, bi, bb, bv, _, _, _, HS3.out.below hb4, rfl⟩, ⟨_, _, _, hV4, rfl⟩, fun x hx hm => by
          have h1 := (HS3.out.lt x hx).2
          rcases mem_rvF.1 hm with e | e | e | e
          · omega
          · simp [Value.ownBlock] at e
          · simp [Value.ownBlock] at e
          · simp [Value.ownBlock] at e, by simp, fun x hm => by
          have := hB3.size
          rcases mem_rvF.1 hm with e | e | e | e
          · omega
          · simp [Value.ownBlock] at e
          · simp [Value.ownBlock] at e
          · simp [Value.ownBlock] at e, hB4.size⟩
      obtain ⟨W5, hW5⟩ : ∃ W5, W5 = (w4.alloc (.cells #[.int .i64 0, .int .i64 0, .int .i64 0, .int .i64 0] 34)).alloc (.cells #[.int .i64 0, .int .i64 0, .int .i64 0, .int .i64 0] 36) := ⟨_, rfl⟩
      obtain ⟨T, hT⟩ : ∃ T, T = w4.heap.size := ⟨_, rfl⟩
      obtain ⟨K, hK⟩ : ∃ K, K = w4.heap.size + 1 := ⟨_, rfl⟩
      have HP5 : Hid (PLw w W5 b r T K long ⟨0, K0, 0, 0, 0, 0, 0, [], [], []⟩ ⟨0, K0, 0, 0, 0, 0, 0, [], [], []⟩ [K, T] 0 0 0 0 0 0 0 0) := by
        have h1 := hP4.add (Y := w4.heap.size) (((Below.refl _ _).alloc (Nat.le_refl _) (.cells #[.int .i64 0, .int .i64 0, .int .i64 0, .int .i64 0] 34))) (Nat.le_refl _) (by simp)
        have h2 := h1.add (Y := w4.heap.size + 1) (((Below.refl _ _).alloc (Nat.le_refl _) (.cells #[.int .i64 0, .int .i64 0, .int .i64 0, .int .i64 0] 36))) (by simp) (by simp)
        rw [hW5, hT, hK]
        exact ⟨h2, (ObjAt.new _ _ _).alloc _, objNew (by simp), (hB4.alloc hB4.size _).alloc (by have := hB4.size; simp; omega) _, by simp, by simp, by omega⟩
      have HI5 : Hid (PI long ⟨0, K0, 0, 0, 0, 0, 0, [], [], []⟩ 0) := hide ⟨hk, HLI.out, by simp, by simp, by simp, by simp, by simp, by simp, by simp⟩
      have hwT : w.heap.size ≤ T := by rw [hT]; exact hB4.size
      have hwK : w.heap.size ≤ K := by rw [hK]; have := hB4.size; omega
      go_upto_region 13 with (fail)
      rw [← hW5, ← hK, ← hT]
      clear hW5 hT hK hP4 hB4 hb4 hV4 hrn HS3 hB3 RN hk HLI
      go_wp2_with fail
      go_loopw [16, 20] (fun tl i wr => ∃ (k : Nat) (A : Vals) (x0 x1 x2 x3 y0 y1 y2 y3 : Int), tl = .bool true ∧ i = .int .i64 k ∧ k ≤ len ∧ k ≤ 60 ∧ Hid (PI long A k) ∧ Hid (PLw w wr b r T K long A A [K, T] x0 x1 x2 x3 y0 y1 y2 y3)) (fun _ i _ => 100 - (intOf i).toNat)
      case atStart => exact ⟨0, _, 0, 0, 0, 0, 0, 0, 0, 0, rfl, rfl, by omega, by omega, HI5, HP5⟩
      case round =>
        clear HP5 HI5
        obtain ⟨k, A, x0, x1, x2, x3, y0, y1, y2, y3, rfl, rfl, hk, hk60, HI, HP⟩ := hrel
        obtain ⟨w9, rfl⟩ : ∃ x, x = wr := ⟨wr, rfl⟩
        have hb9 := HP.out.bel
        by_cases h1 : k < len
        · by_cases h2 : k < len2
          · by_cases h3 : k < len3
            · by_cases h4 : k < 60
              ·
                obtain ⟨bd, offd, rfl, hltd, qd⟩ : ∃ bd offd, a = some ⟨bd, offd, none⟩ ∧ bd < w.heap.size ∧ w.cell? ⟨bd, offd + k, none⟩ = some (.int .i64 (dd.getD k 0)) := by
                  rcases HR.out with h | ⟨b, off, h4, h5, _, _, h6⟩
                  · omega
                  · exact ⟨b, off, h4, h5, h6 k h1⟩
                obtain ⟨bt, offt, rfl, hltt, qt⟩ : ∃ bt offt, a3 = some ⟨bt, offt, none⟩ ∧ bt < w.heap.size ∧ w.cell? ⟨bt, offt + k, none⟩ = some (.int .i64 (tt.getD k 0)) := by
                  rcases HR3.out with h | ⟨b, off, h4, h5, _, _, h6⟩
                  · omega
                  · exact ⟨b, off, h4, h5, h6 k h3⟩
                obtain ⟨bl, offl, rfl, hltl, g0, t0, t1, t2, t3, u0, u1, u2, u3, s, hsz, hHe⟩ : ∃ bl offl, a2 = some ⟨bl, offl, none⟩ ∧ bl < w.heap.size ∧ ∃ (g0 t0 t1 t2 t3 u0 u1 u2 u3 : Int) (s : ByteArray), s.size ≤ maxLen ∧ HelloAt w bl (offl + k * 10) g0 t0 t1 t2 t3 u0 u1 u2 u3 s := by
                  rcases HR2.out with h | ⟨b, off, h4, h5, h6⟩
                  · omega
                  · exact ⟨b, off, h4, h5, h6 k h2⟩
                generalize dd.getD k 0 = d at qd
                generalize tt.getD k 0 = tm at qt
                have rd := (hb9.cell (p := ⟨bd, offd + k, none⟩) hltd).trans qd
                have HTM : Hid (∀ w' : World, Below w.heap.size w w' → w'.cell? ⟨bt, offt + k, none⟩ = some (.int .i64 tm)) := fun w' hB' => (hB'.cell (p := ⟨bt, offt + k, none⟩) hltt).trans qt
                have HRD : Hid (∀ w' : World, Below w.heap.size w w' → w'.cell? ⟨bd, offd + k, none⟩ = some (.int .i64 d)) := fun w' hB' => (hB'.cell (p := ⟨bd, offd + k, none⟩) hltd).trans qd
                have HHE := hide hHe
                have HSZ := hide hsz
                clear qd qt hHe hsz
                by_cases d0 : d = 0
                ·
                  refine spTicket w w9 long b r T K bd offd bl offl bt offt k len cap len2 cap2 len3 cap3 A x0 x1 x2 x3 y0 y1 y2 y3 d tm g0 t0 t1 t2 t3 u0 u1 u2 u3 s _ _ _ _ _ _ _ _ _ _ _ _ _ _ _ _ _ _ _ _ _ _ _ _ _ _ _ _ _ _ _ _ _ _ _ _ _ _ _ _ _ _ _ _ _ _ _ _ _ _ _ _ _ _ _ _ _ _ _ _ _ _ _ _ _ _ _ _ _ _ _ _ _ _ _ _ _ _ _ _ _ _ _ _ _ _ _ _ _ _ _ _ _ _ _ _ _ _ _ _ _ _ _ _ _ _ _ _ _ _ _ _ _ _ _ _ _ _ _ _ _ _ _ _ _ _ _ _ _ _ _ _ _ _ _ _ _ _ _ _ _ _ _ _ _ _ _ _ _ _ _ _ _ _ _ _ _ _ _ _ _ _ _ _ _ _ _ _ _ _ _ _ _ _ _ _ _ _ _ _ _ _ _ _ _ _ _ _ _ _ _ _ _ _ _ _ _ _ _ _ _ _ _ _ _ _ _ _ _ _ _ _ _ _ _ _ _ _ _ _ _ _ _ _ _ _ _ _ _ _ _ _ _ _ _ hm hm2 hm3 HE hwT hwK hk hk60 HI HP hb9 h1 h2 h3 h4 hltd hltt hltl rd HTM HRD HHE HSZ d0 (hide ?_)
                  intro v10 v21 v22 v23 v24 v25 v26 v27 v28 v29 v30 v31 v32 v33 v34 v35 v63 v64 v65 v66 v67 v68 v69 v70 v71 v72 v73 v74 v75 v76 v77 v78 v79 v80 v81 v82 v83 v84 v85 v86 v87 v88 v89 v90 v91 v92 v93 v94 v95 v96 v97 v98 v99 v100 v101 v102 v103 v104 v105 v106 v107 v108 v109 v110 v111 v112 v113 v114 v115 v116 v117 v118 v119 v120 v121 v122 v123 v124 v125 v126 v127 v128 v129 v130 v131 v132 v133 v134 v135 v136 v137 v138 v139 v140 v141 v142 v143 v144 v145 v146 v147 v148 v149 v150 v151 v152 v153 v154 v155 v156 v157 v158 v159 v160 v161 v162 v163 v164 v165 v166 v167 v168 v169 v170 v171 v172 v173 v174 v175 v176 v177 v178 v179 v180 v181 v182 v183 v184 v185 v186 v187 v188 v189 v190 v191 v192 v193 v194 v195 v196 v197 v198 v199 v200 v201 v202 v203 v204 v205 v206 v207 v208 v209 v210 v211 v212 v213 v214 v215 v216 v217 v218 v219 v220 v221 v222 v223 v224 v225 v226 v227 v228 v229 v230 v231 v232 v233 v234 v235 v236 v237 v238 v239 v240 v241 v242 C z0 z1 z2 z3 z4 z5 z6 z7 w' hi' hp'
                  go_roundw
                  case rel => exact ⟨_, _, _, _, _, _, _, _, _, _, _, _, _, _, _, _, _, _, _, _, _, _, _, _, _, _, _, _, _, _, _, _, _, _, _, _, _, _, _, _, _, _, _, _, _, _, _, _, _, _, _, _, _, _, _, _, _, _, _, _, _, _, _, _, _, _, _, _, _, _, _, _, _, _, _, _, _, _, _, _, _, _, _, _, _, _, _, _, _, _, _, _, _, _, _, _, _, _, _, _, _, _, _, _, _, _, _, _, _, _, _, _, _, _, _, _, _, _, _, _, _, _, _, _, _, _, _, _, _, _, _, _, _, _, _, _, _, _, _, _, _, _, _, _, _, _, _, _, _, _, _, _, _, _, _, _, _, _, _, _, _, _, _, _, _, _, _, _, _, _, _, _, _, _, _, _, _, _, _, _, _, _, _, _, _, _, _, _, _, _, _, _, _, _, _, _, _, _, ⟨k + 1, C, z0, z1, z2, z3, z4, z5, z6, z7, rfl, rfl, by omega, by omega, hi', hp'⟩, rfl⟩
                  case measure => (simp [intOf] <;> omega)
                ·
                  by_cases d1 : d = 1
                  ·
                    refine spTurn w w9 long b r T K bd offd bl offl bt offt k len cap len2 cap2 len3 cap3 A x0 x1 x2 x3 y0 y1 y2 y3 d tm g0 t0 t1 t2 t3 u0 u1 u2 u3 s _ _ _ _ _ _ _ _ _ _ _ _ _ _ _ _ _ _ _ _ _ _ _ _ _ _ _ _ _ _ _ _ _ _ _ _ _ _ _ _ _ _ _ _ _ _ _ _ _ _ _ _ _ _ _ _ _ _ _ _ _ _ _ _ _ _ _ _ _ _ _ _ _ _ _ _ _ _ _ _ _ _ _ _ _ _ _ _ _ _ _ _ _ _ _ _ _ _ _ _ _ _ _ _ _ _ _ _ _ _ _ _ _ _ _ _ _ _ _ _ _ _ _ _ _ _ _ _ _ _ _ _ _ _ _ _ _ _ _ _ _ _ _ _ _ _ _ _ _ _ _ _ _ _ _ _ _ _ _ _ _ _ _ _ _ _ _ _ _ _ _ _ _ _ _ _ _ _ _ _ _ _ _ _ _ _ _ _ _ _ _ _ _ _ _ _ _ _ _ _ _ _ _ _ _ _ _ _ _ _ _ _ _ _ _ _ _ _ _ _ _ _ _ _ _ _ _ _ _ _ _ _ _ _ _ hm hm2 hm3 HE hwT hwK hk hk60 HI HP hb9 h1 h2 h3 h4 hltd hltt hltl rd HTM HRD HHE HSZ d1 (hide ?_)
                    intro v10 v21 v22 v23 v24 v25 v26 v27 v28 v29 v30 v31 v32 v33 v34 v35 v63 v64 v65 v66 v67 v68 v69 v70 v71 v72 v73 v74 v75 v76 v77 v78 v79 v80 v81 v82 v83 v84 v85 v86 v87 v88 v89 v90 v91 v92 v93 v94 v95 v96 v97 v98 v99 v100 v101 v102 v103 v104 v105 v106 v107 v108 v109 v110 v111 v112 v113 v114 v115 v116 v117 v118 v119 v120 v121 v122 v123 v124 v125 v126 v127 v128 v129 v130 v131 v132 v133 v134 v135 v136 v137 v138 v139 v140 v141 v142 v143 v144 v145 v146 v147 v148 v149 v150 v151 v152 v153 v154 v155 v156 v157 v158 v159 v160 v161 v162 v163 v164 v165 v166 v167 v168 v169 v170 v171 v172 v173 v174 v175 v176 v177 v178 v179 v180 v181 v182 v183 v184 v185 v186 v187 v188 v189 v190 v191 v192 v193 v194 v195 v196 v197 v198 v199 v200 v201 v202 v203 v204 v205 v206 v207 v208 v209 v210 v211 v212 v213 v214 v215 v216 v217 v218 v219 v220 v221 v222 v223 v224 v225 v226 v227 v228 v229 v230 v231 v232 v233 v234 v235 v236 v237 v238 v239 v240 v241 v242 C z0 z1 z2 z3 z4 z5 z6 z7 w' hi' hp'
                    go_roundw
                    case rel => exact ⟨_, _, _, _, _, _, _, _, _, _, _, _, _, _, _, _, _, _, _, _, _, _, _, _, _, _, _, _, _, _, _, _, _, _, _, _, _, _, _, _, _, _, _, _, _, _, _, _, _, _, _, _, _, _, _, _, _, _, _, _, _, _, _, _, _, _, _, _, _, _, _, _, _, _, _, _, _, _, _, _, _, _, _, _, _, _, _, _, _, _, _, _, _, _, _, _, _, _, _, _, _, _, _, _, _, _, _, _, _, _, _, _, _, _, _, _, _, _, _, _, _, _, _, _, _, _, _, _, _, _, _, _, _, _, _, _, _, _, _, _, _, _, _, _, _, _, _, _, _, _, _, _, _, _, _, _, _, _, _, _, _, _, _, _, _, _, _, _, _, _, _, _, _, _, _, _, _, _, _, _, _, _, _, _, _, _, _, _, _, _, _, _, _, _, _, _, _, _, ⟨k + 1, C, z0, z1, z2, z3, z4, z5, z6, z7, rfl, rfl, by omega, by omega, hi', hp'⟩, rfl⟩
                    case measure => (simp [intOf] <;> omega)
                  ·
                    by_cases d2 : d = 2
                    ·
                      refine spCrash w w9 long b r T K bd offd bl offl bt offt k len cap len2 cap2 len3 cap3 A x0 x1 x2 x3 y0 y1 y2 y3 d tm g0 t0 t1 t2 t3 u0 u1 u2 u3 s _ _ _ _ _ _ _ _ _ _ _ _ _ _ _ _ _ _ _ _ _ _ _ _ _ _ _ _ _ _ _ _ _ _ _ _ _ _ _ _ _ _ _ _ _ _ _ _ _ _ _ _ _ _ _ _ _ _ _ _ _ _ _ _ _ _ _ _ _ _ _ _ _ _ _ _ _ _ _ _ _ _ _ _ _ _ _ _ _ _ _ _ _ _ _ _ _ _ _ _ _ _ _ _ _ _ _ _ _ _ _ _ _ _ _ _ _ _ _ _ _ _ _ _ _ _ _ _ _ _ _ _ _ _ _ _ _ _ _ _ _ _ _ _ _ _ _ _ _ _ _ _ _ _ _ _ _ _ _ _ _ _ _ _ _ _ _ _ _ _ _ _ _ _ _ _ _ _ _ _ _ _ _ _ _ _ _ _ _ _ _ _ _ _ _ _ _ _ _ _ _ _ _ _ _ _ _ _ _ _ _ _ _ _ _ _ _ _ _ _ _ _ _ _ _ _ _ _ _ _ _ _ _ _ _ hm hm2 hm3 HE hwT hwK hk hk60 HI HP hb9 h1 h2 h3 h4 hltd hltt hltl rd HTM HRD HHE HSZ d2 (hide ?_)
                      intro v10 v21 v22 v23 v24 v25 v26 v27 v28 v29 v30 v31 v32 v33 v34 v35 v63 v64 v65 v66 v67 v68 v69 v70 v71 v72 v73 v74 v75 v76 v77 v78 v79 v80 v81 v82 v83 v84 v85 v86 v87 v88 v89 v90 v91 v92 v93 v94 v95 v96 v97 v98 v99 v100 v101 v102 v103 v104 v105 v106 v107 v108 v109 v110 v111 v112 v113 v114 v115 v116 v117 v118 v119 v120 v121 v122 v123 v124 v125 v126 v127 v128 v129 v130 v131 v132 v133 v134 v135 v136 v137 v138 v139 v140 v141 v142 v143 v144 v145 v146 v147 v148 v149 v150 v151 v152 v153 v154 v155 v156 v157 v158 v159 v160 v161 v162 v163 v164 v165 v166 v167 v168 v169 v170 v171 v172 v173 v174 v175 v176 v177 v178 v179 v180 v181 v182 v183 v184 v185 v186 v187 v188 v189 v190 v191 v192 v193 v194 v195 v196 v197 v198 v199 v200 v201 v202 v203 v204 v205 v206 v207 v208 v209 v210 v211 v212 v213 v214 v215 v216 v217 v218 v219 v220 v221 v222 v223 v224 v225 v226 v227 v228 v229 v230 v231 v232 v233 v234 v235 v236 v237 v238 v239 v240 v241 v242 C z0 z1 z2 z3 z4 z5 z6 z7 w' hi' hp'
                      go_roundw
                      case rel => exact ⟨_, _, _, _, _, _, _, _, _, _, _, _, _, _, _, _, _, _, _, _, _, _, _, _, _, _, _, _, _, _, _, _, _, _, _, _, _, _, _, _, _, _, _, _, _, _, _, _, _, _, _, _, _, _, _, _, _, _, _, _, _, _, _, _, _, _, _, _, _, _, _, _, _, _, _, _, _, _, _, _, _, _, _, _, _, _, _, _, _, _, _, _, _, _, _, _, _, _, _, _, _, _, _, _, _, _, _, _, _, _, _, _, _, _, _, _, _, _, _, _, _, _, _, _, _, _, _, _, _, _, _, _, _, _, _, _, _, _, _, _, _, _, _, _, _, _, _, _, _, _, _, _, _, _, _, _, _, _, _, _, _, _, _, _, _, _, _, _, _, _, _, _, _, _, _, _, _, _, _, _, _, _, _, _, _, _, _, _, _, _, _, _, _, _, _, _, _, _, ⟨k + 1, C, z0, z1, z2, z3, z4, z5, z6, z7, rfl, rfl, by omega, by omega, hi', hp'⟩, rfl⟩
                      case measure => (simp [intOf] <;> omega)
                    ·
                      by_cases d3 : d = 3
                      ·
                        refine spPull w w9 long b r T K bd offd bl offl bt offt k len cap len2 cap2 len3 cap3 A x0 x1 x2 x3 y0 y1 y2 y3 d tm g0 t0 t1 t2 t3 u0 u1 u2 u3 s _ _ _ _ _ _ _ _ _ _ _ _ _ _ _ _ _ _ _ _ _ _ _ _ _ _ _ _ _ _ _ _ _ _ _ _ _ _ _ _ _ _ _ _ _ _ _ _ _ _ _ _ _ _ _ _ _ _ _ _ _ _ _ _ _ _ _ _ _ _ _ _ _ _ _ _ _ _ _ _ _ _ _ _ _ _ _ _ _ _ _ _ _ _ _ _ _ _ _ _ _ _ _ _ _ _ _ _ _ _ _ _ _ _ _ _ _ _ _ _ _ _ _ _ _ _ _ _ _ _ _ _ _ _ _ _ _ _ _ _ _ _ _ _ _ _ _ _ _ _ _ _ _ _ _ _ _ _ _ _ _ _ _ _ _ _ _ _ _ _ _ _ _ _ _ _ _ _ _ _ _ _ _ _ _ _ _ _ _ _ _ _ _ _ _ _ _ _ _ _ _ _ _ _ _ _ _ _ _ _ _ _ _ _ _ _ _ _ _ _ _ _ _ _ _ _ _ _ _ _ _ _ _ _ _ hm hm2 hm3 HE hwT hwK hk hk60 HI HP hb9 h1 h2 h3 h4 hltd hltt hltl rd HTM HRD HHE HSZ d3 (hide ?_)
                        intro v10 v21 v22 v23 v24 v25 v26 v27 v28 v29 v30 v31 v32 v33 v34 v35 v63 v64 v65 v66 v67 v68 v69 v70 v71 v72 v73 v74 v75 v76 v77 v78 v79 v80 v81 v82 v83 v84 v85 v86 v87 v88 v89 v90 v91 v92 v93 v94 v95 v96 v97 v98 v99 v100 v101 v102 v103 v104 v105 v106 v107 v108 v109 v110 v111 v112 v113 v114 v115 v116 v117 v118 v119 v120 v121 v122 v123 v124 v125 v126 v127 v128 v129 v130 v131 v132 v133 v134 v135 v136 v137 v138 v139 v140 v141 v142 v143 v144 v145 v146 v147 v148 v149 v150 v151 v152 v153 v154 v155 v156 v157 v158 v159 v160 v161 v162 v163 v164 v165 v166 v167 v168 v169 v170 v171 v172 v173 v174 v175 v176 v177 v178 v179 v180 v181 v182 v183 v184 v185 v186 v187 v188 v189 v190 v191 v192 v193 v194 v195 v196 v197 v198 v199 v200 v201 v202 v203 v204 v205 v206 v207 v208 v209 v210 v211 v212 v213 v214 v215 v216 v217 v218 v219 v220 v221 v222 v223 v224 v225 v226 v227 v228 v229 v230 v231 v232 v233 v234 v235 v236 v237 v238 v239 v240 v241 v242 C z0 z1 z2 z3 z4 z5 z6 z7 w' hi' hp'
                        go_roundw
                        case rel => exact ⟨_, _, _, _, _, _, _, _, _, _, _, _, _, _, _, _, _, _, _, _, _, _, _, _, _, _, _, _, _, _, _, _, _, _, _, _, _, _, _, _, _, _, _, _, _, _, _, _, _, _, _, _, _, _, _, _, _, _, _, _, _, _, _, _, _, _, _, _, _, _, _, _, _, _, _, _, _, _, _, _, _, _, _, _, _, _, _, _, _, _, _, _, _, _, _, _, _, _, _, _, _, _, _, _, _, _, _, _, _, _, _, _, _, _, _, _, _, _, _, _, _, _, _, _, _, _, _, _, _, _, _, _, _, _, _, _, _, _, _, _, _, _, _, _, _, _, _, _, _, _, _, _, _, _, _, _, _, _, _, _, _, _, _, _, _, _, _, _, _, _, _, _, _, _, _, _, _, _, _, _, _, _, _, _, _, _, _, _, _, _, _, _, _, _, _, _, _, _, ⟨k + 1, C, z0, z1, z2, z3, z4, z5, z6, z7, rfl, rfl, by omega, by omega, hi', hp'⟩, rfl⟩
                        case measure => (simp [intOf] <;> omega)
                      ·
                        cases hev : (d.tmod 2 == 0)
                        ·
                          refine spHelloO w w9 long b r T K bd offd bl offl bt offt k len cap len2 cap2 len3 cap3 A x0 x1 x2 x3 y0 y1 y2 y3 d tm g0 t0 t1 t2 t3 u0 u1 u2 u3 s _ _ _ _ _ _ _ _ _ _ _ _ _ _ _ _ _ _ _ _ _ _ _ _ _ _ _ _ _ _ _ _ _ _ _ _ _ _ _ _ _ _ _ _ _ _ _ _ _ _ _ _ _ _ _ _ _ _ _ _ _ _ _ _ _ _ _ _ _ _ _ _ _ _ _ _ _ _ _ _ _ _ _ _ _ _ _ _ _ _ _ _ _ _ _ _ _ _ _ _ _ _ _ _ _ _ _ _ _ _ _ _ _ _ _ _ _ _ _ _ _ _ _ _ _ _ _ _ _ _ _ _ _ _ _ _ _ _ _ _ _ _ _ _ _ _ _ _ _ _ _ _ _ _ _ _ _ _ _ _ _ _ _ _ _ _ _ _ _ _ _ _ _ _ _ _ _ _ _ _ _ _ _ _ _ _ _ _ _ _ _ _ _ _ _ _ _ _ _ _ _ _ _ _ _ _ _ _ _ _ _ _ _ _ _ _ _ _ _ _ _ _ _ _ _ _ _ _ _ _ _ _ _ _ _ hm hm2 hm3 HE hwT hwK hk hk60 HI HP hb9 h1 h2 h3 h4 hltd hltt hltl rd HTM HRD HHE HSZ ⟨d0, d1, d2, d3⟩ hev (hide ?_)
                          intro v10 v21 v22 v23 v24 v25 v26 v27 v28 v29 v30 v31 v32 v33 v34 v35 v63 v64 v65 v66 v67 v68 v69 v70 v71 v72 v73 v74 v75 v76 v77 v78 v79 v80 v81 v82 v83 v84 v85 v86 v87 v88 v89 v90 v91 v92 v93 v94 v95 v96 v97 v98 v99 v100 v101 v102 v103 v104 v105 v106 v107 v108 v109 v110 v111 v112 v113 v114 v115 v116 v117 v118 v119 v120 v121 v122 v123 v124 v125 v126 v127 v128 v129 v130 v131 v132 v133 v134 v135 v136 v137 v138 v139 v140 v141 v142 v143 v144 v145 v146 v147 v148 v149 v150 v151 v152 v153 v154 v155 v156 v157 v158 v159 v160 v161 v162 v163 v164 v165 v166 v167 v168 v169 v170 v171 v172 v173 v174 v175 v176 v177 v178 v179 v180 v181 v182 v183 v184 v185 v186 v187 v188 v189 v190 v191 v192 v193 v194 v195 v196 v197 v198 v199 v200 v201 v202 v203 v204 v205 v206 v207 v208 v209 v210 v211 v212 v213 v214 v215 v216 v217 v218 v219 v220 v221 v222 v223 v224 v225 v226 v227 v228 v229 v230 v231 v232 v233 v234 v235 v236 v237 v238 v239 v240 v241 v242 C z0 z1 z2 z3 z4 z5 z6 z7 w' hi' hp'
                          go_roundw
                          case rel => exact ⟨_, _, _, _, _, _, _, _, _, _, _, _, _, _, _, _, _, _, _, _, _, _, _, _, _, _, _, _, _, _, _, _, _, _, _, _, _, _, _, _, _, _, _, _, _, _, _, _, _, _, _, _, _, _, _, _, _, _, _, _, _, _, _, _, _, _, _, _, _, _, _, _, _, _, _, _, _, _, _, _, _, _, _, _, _, _, _, _, _, _, _, _, _, _, _, _, _, _, _, _, _, _, _, _, _, _, _, _, _, _, _, _, _, _, _, _, _, _, _, _, _, _, _, _, _, _, _, _, _, _, _, _, _, _, _, _, _, _, _, _, _, _, _, _, _, _, _, _, _, _, _, _, _, _, _, _, _, _, _, _, _, _, _, _, _, _, _, _, _, _, _, _, _, _, _, _, _, _, _, _, _, _, _, _, _, _, _, _, _, _, _, _, _, _, _, _, _, _, ⟨k + 1, C, z0, z1, z2, z3, z4, z5, z6, z7, rfl, rfl, by omega, by omega, hi', hp'⟩, rfl⟩
                          case measure => (simp [intOf] <;> omega)
                        ·
                          refine spHelloE w w9 long b r T K bd offd bl offl bt offt k len cap len2 cap2 len3 cap3 A x0 x1 x2 x3 y0 y1 y2 y3 d tm g0 t0 t1 t2 t3 u0 u1 u2 u3 s _ _ _ _ _ _ _ _ _ _ _ _ _ _ _ _ _ _ _ _ _ _ _ _ _ _ _ _ _ _ _ _ _ _ _ _ _ _ _ _ _ _ _ _ _ _ _ _ _ _ _ _ _ _ _ _ _ _ _ _ _ _ _ _ _ _ _ _ _ _ _ _ _ _ _ _ _ _ _ _ _ _ _ _ _ _ _ _ _ _ _ _ _ _ _ _ _ _ _ _ _ _ _ _ _ _ _ _ _ _ _ _ _ _ _ _ _ _ _ _ _ _ _ _ _ _ _ _ _ _ _ _ _ _ _ _ _ _ _ _ _ _ _ _ _ _ _ _ _ _ _ _ _ _ _ _ _ _ _ _ _ _ _ _ _ _ _ _ _ _ _ _ _ _ _ _ _ _ _ _ _ _ _ _ _ _ _ _ _ _ _ _ _ _ _ _ _ _ _ _ _ _ _ _ _ _ _ _ _ _ _ _ _ _ _ _ _ _ _ _ _ _ _ _ _ _ _ _ _ _ _ _ _ _ _ hm hm2 hm3 HE hwT hwK hk hk60 HI HP hb9 h1 h2 h3 h4 hltd hltt hltl rd HTM HRD HHE HSZ ⟨d0, d1, d2, d3⟩ hev (hide ?_)
                          intro v10 v21 v22 v23 v24 v25 v26 v27 v28 v29 v30 v31 v32 v33 v34 v35 v63 v64 v65 v66 v67 v68 v69 v70 v71 v72 v73 v74 v75 v76 v77 v78 v79 v80 v81 v82 v83 v84 v85 v86 v87 v88 v89 v90 v91 v92 v93 v94 v95 v96 v97 v98 v99 v100 v101 v102 v103 v104 v105 v106 v107 v108 v109 v110 v111 v112 v113 v114 v115 v116 v117 v118 v119 v120 v121 v122 v123 v124 v125 v126 v127 v128 v129 v130 v131 v132 v133 v134 v135 v136 v137 v138 v139 v140 v141 v142 v143 v144 v145 v146 v147 v148 v149 v150 v151 v152 v153 v154 v155 v156 v157 v158 v159 v160 v161 v162 v163 v164 v165 v166 v167 v168 v169 v170 v171 v172 v173 v174 v175 v176 v177 v178 v179 v180 v181 v182 v183 v184 v185 v186 v187 v188 v189 v190 v191 v192 v193 v194 v195 v196 v197 v198 v199 v200 v201 v202 v203 v204 v205 v206 v207 v208 v209 v210 v211 v212 v213 v214 v215 v216 v217 v218 v219 v220 v221 v222 v223 v224 v225 v226 v227 v228 v229 v230 v231 v232 v233 v234 v235 v236 v237 v238 v239 v240 v241 v242 C z0 z1 z2 z3 z4 z5 z6 z7 w' hi' hp'
                          go_roundw
                          case rel => exact ⟨_, _, _, _, _, _, _, _, _, _, _, _, _, _, _, _, _, _, _, _, _, _, _, _, _, _, _, _, _, _, _, _, _, _, _, _, _, _, _, _, _, _, _, _, _, _, _, _, _, _, _, _, _, _, _, _, _, _, _, _, _, _, _, _, _, _, _, _, _, _, _, _, _, _, _, _, _, _, _, _, _, _, _, _, _, _, _, _, _, _, _, _, _, _, _, _, _, _, _, _, _, _, _, _, _, _, _, _, _, _, _, _, _, _, _, _, _, _, _, _, _, _, _, _, _, _, _, _, _, _, _, _, _, _, _, _, _, _, _, _, _, _, _, _, _, _, _, _, _, _, _, _, _, _, _, _, _, _, _, _, _, _, _, _, _, _, _, _, _, _, _, _, _, _, _, _, _, _, _, _, _, _, _, _, _, _, _, _, _, _, _, _, _, _, _, _, _, _, ⟨k + 1, C, z0, z1, z2, z3, z4, z5, z6, z7, rfl, rfl, by omega, by omega, hi', hp'⟩, rfl⟩
                          case measure => (simp [intOf] <;> omega)
              · go_wp2
                go_ret
                exact ⟨rfl, hb9⟩
            · go_wp2
              go_ret
              exact ⟨rfl, hb9⟩
          · go_wp2
            go_ret
            exact ⟨rfl, hb9⟩
        · go_wp2
          go_ret
          exact ⟨rfl, hb9⟩
end Go.Proofs.YtkkmlolnikomdaaGreatDoor

namespace Go.Proofs.YtkkmlolnikomdaaGreatDoor
open Go.ChangeShapes Go.WideShapes Go.RowKit

theorem Tryz.et : Tryz.prog.globalNamed "errors.errorType" = some 0 := by kernel_rfl
theorem Tryz.rt : (Tryz.prog.cutTypes.find? (·.1 == "internal/reflectlite.rtype")).map (·.2) = some 154 := by kernel_rfl
theorem Tryz.oneRow : ((List.range Tryz.prog.types.size).filter fun t => Tryz.prog.rowNamed t [101, 114, 114, 111, 114]) = [27] := by kernel_rfl

theorem Tryz.handle_of_laid {W : World} (h : laidMetH Tryz.prog [("errors.errorType", Rows.laid_errors_errorType)] W) : ErrT W := by
  have h' : laidMet Tryz.prog [] W ∧ handlesMet Tryz.prog [("errors.errorType", Rows.laid_errors_errorType)] W := h
  obtain ⟨name, u, ty, e1, e2, e3, e4, e5⟩ := h'.2 _ (List.mem_singleton.2 rfl)
  have en : name = [101, 114, 114, 111, 114] := (Option.some.inj e1).symm
  subst en
  obtain rfl := Option.some.inj (Tryz.rt.symm.trans e2)
  have hm : ty ∈ (List.range Tryz.prog.types.size).filter fun t => Tryz.prog.rowNamed t [101, 114, 114, 111, 114] := List.mem_filter.2 ⟨List.mem_range.2 e3, e4⟩
  rw [Tryz.oneRow] at hm
  obtain rfl := List.mem_singleton.1 hm
  have hh : typeHandle Tryz.prog 27 = .pointer (some ⟨1, 27, none⟩) := by kernel_rfl
  rw [hh] at e5
  simpa [ErrT] using World.var?_cell Tryz.et e5 0

noncomputable def Tryz.laidWorld (os : Os) : World :=
  let w0 := World.holding Tryz.prog os ⟨#[], #[], []⟩
  { w0 with heap := w0.heap.modify 0 fun
      | .cells _ t frozen => .cells #[.iface 154 (.agg #[.pointer (some ⟨1, 27, none⟩)])] t frozen
      | o => o }
end Go.Proofs.YtkkmlolnikomdaaGreatDoor
