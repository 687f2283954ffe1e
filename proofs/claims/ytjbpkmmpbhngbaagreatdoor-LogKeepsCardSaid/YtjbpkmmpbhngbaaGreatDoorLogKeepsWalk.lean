/- The walk of LogKeeps. -/
import Derived.Test.YtjbpkmmpbhngbaaGreatDoorLKRound
import Derived.Deep.RegionHeldLaw
import Derived.Deep.RegionHeld3
import Derived.Deep.Cut
import Derived.IntWalk
import Derived.Deep.AppendLies
import Derived.Deep.DeepCutAuto
import Derived.Deep.CutBlock
namespace Go.Proofs.YtjbpkmmpbhngbaaGreatDoor
open Go.RowKit

set_option maxRecDepth 100000 in
set_option maxHeartbeats 32000000 in
theorem walkLogKeeps (w : World) (a : Option Addr) (len cap : Nat) (zz : List (List Int)) (_hl : len ≤ cap) (_hc : cap ≤ maxLen) (hr : MatRow w a len zz) (a2 : Option Addr) (len2 cap2 : Nat) (ss : List Int) (_hl2 : len2 ≤ cap2) (_hc2 : cap2 ≤ maxLen) (hr2 : IntRow w a2 len2 ss) (a3 : Option Addr) (len3 cap3 : Nat) (ff : List Int) (_hl3 : len3 ≤ cap3) (_hc3 : cap3 ≤ maxLen) (hr3 : IntRow w a3 len3 ff) (a4 : Option Addr) (len4 cap4 : Nat) (kk : List Int) (_hl4 : len4 ≤ cap4) (_hc4 : cap4 ≤ maxLen) (hr4 : IntRow w a4 len4 kk) (hT : Tabs w) :
    Calls Tryz.prog 3 #[.slice a len cap, .slice a2 len2 cap2, .slice a3 len3 cap3, .slice a4 len4 cap4] w fun r w' => r = .returned (.bool true) ∧ Below w.heap.size w w' := by
  have hm : len ≤ maxLen := hr.2.1
  have hm2 : len2 ≤ maxLen := hr2.2.1
  have hm3 : len3 ≤ maxLen := hr3.2.1
  have hm4 : len4 ≤ maxLen := hr4.2.1
  unfold maxLen at hm hm2 hm3 hm4
  have HR := hide hr.split
  have HR2 := hide hr2.split
  have HR3 := hide hr3.split
  have HR4 := hide hr4.split
  have W3 := hide hr3.2.2.1
  have W4 := hide hr4.2.2.1
  have HT := hide hT
  clear hr hr2 hr3 hr4 _hl _hc _hl2 _hc2 _hl3 _hc3 _hl4 _hc4 hT
  go_enter Tryz.func3, Tryz.ntmps3
  have NW := hide (lwNew w)
  have S1 := hide (fun b W (hW : LW w W b lsNew) => lwSpend lsNew_ok 5 10 1 HT.out hW)
  rw [kp1_eq] at S1
  have k1ok : (⟨[⟨5, 10, 1⟩], [], 0, -1, false⟩ : LS).ok := by have h1 := lsNew_ok.spend 5 10 1; rw [kp1_eq] at h1; exact h1
  have S2 := hide (fun b W (hW : LW w W b ⟨[⟨5, 10, 1⟩], [], 0, -1, false⟩) => lwSync k1ok hW)
  rw [kp2_eq] at S2
  have k2ok : kp2.ok := by have h1 := k1ok.sync; rw [kp2_eq] at h1; exact h1
  have S3 := hide (fun b W (hW : LW w W b kp2) => lwSpend k2ok 6 10 1 HT.out hW)
  rw [kp3_eq] at S3
  have S4 := hide (fun b W (hW : LW w W b kp3) => lwCrash kp3_ok 0 (by decide) HT.out hW)
  rw [kp4_eq] at S4
  have S5 := hide (fun b W (hW : LW w W b kp2) => lwAll hW)
  rw [kp2_zs] at S5
  have S6 := hide (fun b W (hW : LW w W b kp2) => lwBytes hW)
  have S7 := hide (fun b W (hW : LW w W b kp2) => lwSafe hW)
  rw [kp2_safe] at S7
  obtain ⟨N0, hN0⟩ : ∃ N : Int, N = (kp2.bytes.length : Int) := ⟨_, rfl⟩
  rw [← hN0] at S6 S7
  clear k1ok k2ok hN0
  go_wp2_with fail
  refine NW.out.mono ?_
  rintro e w1 ⟨b, rfl, h1⟩
  have H1 := hide h1
  clear h1
  go_wp2_with fail
  refine (S1.out _ _ H1.out).mono ?_
  rintro e w2 ⟨rfl, h2⟩
  have H2 := hide h2
  clear h2 H1
  go_wp2_with fail
  refine (S2.out _ _ H2.out).mono ?_
  rintro e w3 ⟨rfl, h3⟩
  have H3 := hide h3
  clear h3 H2
  go_wp2_with fail
  refine (S3.out _ _ H3.out).mono ?_
  rintro e w4 ⟨rfl, h4⟩
  have H4 := hide h4
  clear h4 H3
  go_wp2_with fail
  refine (S4.out _ _ H4.out).mono ?_
  rintro e w5 ⟨⟨r5, rfl⟩, h5⟩
  have H5 := hide h5
  clear h5 H4
  go_wp2_with fail
  refine (S5.out _ _ H5.out).mono ?_
  rintro e w6 ⟨v6, rfl, hp6, h6⟩
  have H6 := hide h6
  obtain ⟨g6, o6, c6, rfl, hc6⟩ : ∃ g off c, v6 = .slice (some ⟨g, off, none⟩) 1 c ∧ w6.cell? ⟨g, off, none⟩ = some (.int .i64 5) := by
    rcases hp6.2 with ⟨h, _⟩ | ⟨g, off, c, e, _, _, hpc⟩
    · cases h
    · exact ⟨g, off, c, e, by simpa using (hpc 0 (by decide)).1⟩
  clear h6 hp6 H5
  go_wp2_with (first
    | (go_at_call 12; refine (S6.out _ _ H6.out).mono ?_; rintro e w' ⟨rfl, rfl⟩)
    | (go_at_call 13; refine (S7.out _ _ H6.out).mono ?_; rintro e w' ⟨rfl, rfl⟩)
    | fail)
  have hB6 : Below w.heap.size w w6 := H6.out.2.1
  clear S1 S2 S3 S4 S5 S6 S7 hc6 H6
  have NW6 := hide (lgsNew w6)
  refine NW6.out.mono ?_
  rintro e w7 ⟨b, rfl, hb7, h7, hB7⟩
  obtain ⟨W8, hW8⟩ : ∃ W, W = (w7.alloc (.cells #[.slice none 0 0] 31)).alloc (.cells #[.int .i64 0] 3) := ⟨_, rfl⟩
  obtain ⟨m8, hm8⟩ : ∃ x, x = w7.heap.size + 1 := ⟨_, rfl⟩
  obtain ⟨d8, hd8⟩ : ∃ x, x = w7.heap.size := ⟨_, rfl⟩
  have hA8 : Below w7.heap.size w7 W8 := by rw [hW8]; exact ((Below.refl _ _).alloc (Nat.le_refl _) _).alloc (by simp) _
  have hK8 : KA w W8 b lsNew (.slice none 0 0) (.slice (some ⟨d8, 0, none⟩) 1 1) (.slice (some ⟨m8, 0, none⟩) 1 1) [.slice none 0 0] [] [] := by
    have hbl := h7.lt
    have hz6 := hB6.size
    have hz7 := hB7.size
    have hod : W8.heap[d8]? = some (.cells #[.slice none 0 0] 31 (0, 0)) := by rw [hW8]; exact ((objNew hd8 : ObjAt _ d8 31 [.slice none 0 0])).alloc _
    have hom : W8.heap[m8]? = some (.cells #[.int .i64 0] 3 (0, 0)) := by
      rw [hW8, hm8]
      have h := ObjAt.new (w7.alloc (.cells #[.slice none 0 0] 31)) 3 [.int .i64 0]
      rw [World.size_alloc] at h
      exact h
    refine ⟨lsNew_ok, h7.below hA8, ⟨by simp, .inr ⟨d8, 1, _, rfl, by omega, hod, Nat.le_refl _, by decide, rfl, rfl⟩⟩, ⟨by simp [marksR], .inr ⟨m8, 1, _, rfl, by omega, hom, Nat.le_refl _, by decide, rfl, rfl⟩⟩, rfl, XR.nil _ _ _ _, fun i hi => ?_, fun g hg => ?_, fun g hg => ?_, hB6.trans ((hB7.mono hz6).trans (hA8.mono (by omega))), by omega⟩
    · have : i = 0 := by simpa using hi
      subst this
      exact XR.nil _ _ _ _
    · simp [Value.ownBlock] at hg ⊢; omega
    · simp [Value.ownBlock] at hg; omega
  have HK8 := hide hK8
  clear hK8 NW6 hA8 h7 hB7 NW hB6
  go_wp2
  rw [← hm8, ← hd8, ← hW8]
  clear hW8 hm8 hd8
  go_loopw [15, 16, 17, 18] (fun dn mk at_ rd wr => ∃ (p q : Nat) (S : LS) (v dv mv : Value) (vs : List Value), dn = dv ∧ mk = mv ∧ at_ = .int .i64 (p : Int) ∧ rd = .int .i64 (q : Int) ∧ p ≤ len ∧ q ≤ 5 ∧ q ≤ len3 + 1 ∧ Hid (KA w wr b S v dv mv vs S.rs S.rs)) (fun _ _ _ rd _ => 10 - (intOf rd).toNat)
  case atStart => exact ⟨0, 0, _, _, _, _, _, rfl, rfl, rfl, rfl, by omega, by omega, by omega, HK8⟩
  case round =>
    clear HK8
    obtain ⟨p, q, S, v, dv, mv, vs, rfl, rfl, rfl, rfl, hp, hq5, hq3, HK⟩ := hrel
    obtain ⟨w9, rfl⟩ : ∃ x, x = wr := ⟨wr, rfl⟩
    have hbel := HK.out.bel
    by_cases h1 : q ≤ len3
    · by_cases h2 : q < 4
      · refine lkRound w w9 b p q a len cap zz a2 len2 cap2 ss a3 len3 cap3 ff a4 len4 cap4 kk S v _ _ vs _ _ _ _ _ _ _ _ _ _ _ _ _ _ _ _ _ _ _ _ _ _ _ _ _ _ _ _ _ _ _ _ _ _ _ _ _ _ _ _ _ _ _ _ _ _ _ _ _ _ _ _ _ _ _ _ _ _ _ _ _ _ _ _ _ _ _ _ _ _ _ _ _ _ _ _ _ _ _ _ _ _ _ _ _ _ _ _ _ _ _ _ _ _ _ _ _ _ _ _ _ _ _ _ _ _ _ _ _ _ _ _ _ _ _ _ _ _ _ _ _ _ _ _ _ _ _ _ _ _ _ _ _ _ _ _ _ _ _ _ _ _ _ _ _ _ _ _ _ _ _ _ _ _ _ _ _ _ _ _ _ _ _ _ _ _ _ _ _ _ _ _ _ _ _ _ _ _ _ _ _ _ _ _ _ _ _ _ _ _ _ _ _ _ _ _ _ _ _ _ _ _ _ _ _ _ _ _ _ _ _ _ _ _ _ _ _ _ _ _ _ _ _ _ _ _ _ _ _ _ _ _ _ _ _ _ _ _ _ _ _ _ _ _ _ _ _ _ _ _ _ _ _ _ _ _ _ _ _ _ _ _ _ _ _ _ _ _ _ _ _ _ _ _ _ _ _ _ _ _ _ _ _ _ _ _ _ _ _ _ _ _ _ _ hm hm2 hm3 hm4 HT HR HR2 HR3 HR4 W3 W4 hp h1 h2 HK (hide ?_)
        intro v8 v19 v20 v21 v22 v23 v24 v25 v26 v27 v28 v29 v30 v31 v32 v33 v77 v78 v79 v80 v81 v82 v83 v84 v85 v86 v87 v88 v89 v90 v91 v92 v93 v94 v95 v96 v97 v98 v99 v100 v101 v102 v103 v104 v105 v106 v107 v108 v109 v110 v111 v112 v113 v114 v115 v116 v117 v118 v119 v120 v121 v122 v123 v124 v125 v126 v127 v128 v129 v130 v131 v132 v133 v134 v135 v136 v137 v138 v139 v140 v141 v142 v143 v144 v145 v146 v147 v148 v149 v150 v151 v152 v153 v154 v155 v156 v157 v158 v159 v160 v161 v162 v163 v164 v165 v166 v167 v168 v169 v170 v171 v172 v173 v174 v175 v176 v177 v178 v179 v180 v181 v182 v183 v184 v185 v186 v187 v188 v189 v190 v191 v192 v193 v194 v195 v196 v197 v198 v199 v200 v201 v202 v203 v204 v205 v206 v207 v208 v209 v210 v211 v212 v213 v214 v215 v216 v217 v218 v219 v220 v221 v222 v223 v224 v225 v226 v227 v228 v229 v230 v231 v232 v233 v234 v235 v236 v237 v238 v239 v240 v241 v242 v243 v244 v245 v246 v247 v248 v249 v250 v251 v252 v253 v254 v255 v256 v257 v258 v259 v260 v261 v262 v263 v264 v265 v266 v267 v268 v269 v270 v271 v272 v273 v274 v275 v276 v277 v278 v279 v280 v281 v282 v283 v284 v285 v286 v287 v288 v289 v290 v291 v292 v293 v294 v295 v296 v297 v298 v299 v300 v301 p' S' v' dv' mv' vs' w' hp' hk'
        go_roundw
        case rel => exact ⟨_, _, _, _, _, _, _, _, _, _, _, _, _, _, _, _, _, _, _, _, _, _, _, _, _, _, _, _, _, _, _, _, _, _, _, _, _, _, _, _, _, _, _, _, _, _, _, _, _, _, _, _, _, _, _, _, _, _, _, _, _, _, _, _, _, _, _, _, _, _, _, _, _, _, _, _, _, _, _, _, _, _, _, _, _, _, _, _, _, _, _, _, _, _, _, _, _, _, _, _, _, _, _, _, _, _, _, _, _, _, _, _, _, _, _, _, _, _, _, _, _, _, _, _, _, _, _, _, _, _, _, _, _, _, _, _, _, _, _, _, _, _, _, _, _, _, _, _, _, _, _, _, _, _, _, _, _, _, _, _, _, _, _, _, _, _, _, _, _, _, _, _, _, _, _, _, _, _, _, _, _, _, _, _, _, _, _, _, _, _, _, _, _, _, _, _, _, _, _, _, _, _, _, _, _, _, _, _, _, _, _, _, _, _, _, _, _, _, _, _, _, _, _, _, _, _, _, _, _, _, _, _, _, _, _, _, _, _, _, _, _, _, _, _, _, ⟨p', q + 1, S', v', dv', mv', vs', rfl, rfl, rfl, rfl, hp', by omega, by omega, hk'⟩, rfl⟩
        case measure => (simp [intOf] <;> omega)
      · go_wp2
        go_ret
        exact ⟨rfl, hbel⟩
    · go_wp2
      go_ret
      exact ⟨rfl, hbel⟩
end Go.Proofs.YtjbpkmmpbhngbaaGreatDoor
