/- The top's law, behind the loop that writes the wishes. -/
import Derived.Test.YtegbbkmppphddaaTTop1
set_option linter.unusedVariables false
set_option pp.maxSteps 200000
set_option pp.deepTerms true
set_option linter.unusedSimpArgs false
namespace Go.Proofs.Ytegbbkmppphddaa
open Go.RowKit

set_option maxRecDepth 100000 in
set_option maxHeartbeats 8000000 in
theorem top_rest0 {w w3 W1 W0 : World} {sA : Option Addr} {sc : Nat} {wA : Option Addr} {wc : Nat} {uA : Option Addr} {uc : Nat} {x : Dye} {cA : Option Addr} {cc : Nat} {pA : Option Addr} {pc : Nat} {c : Cloth} (hsz1 : W1.heap.size = w3.heap.size + 1) (hTl : w3.heap.size + 1 < W0.heap.size) (hcl1 : c.crosses.length ≤ cc) (hcm1 : cc ≤ 2 ^ 63 - 1) (hul : x.unlike.length ≤ uc) (hum : uc ≤ 2 ^ 63 - 1) (hu20 : x.unlike.length ≤ 20)
    (hH : Hid (DyeRd W1 sA sc wA wc uA uc x)) (HX : Hid (DyeBox W1 w.heap.size sA sc wA wc uA uc x)) (HCB : Hid (ClothBox W1 w3.heap.size cA cc pA pc c)) (HC : Hid (ClothRd W1 cA cc pA pc c)) (HB : Hid (Below w.heap.size w W1))
    (HT0 : Hid (TaskBox W0 (w3.heap.size + 1) cA cc pA pc none 0 none 0 ⟨c, [], [], x.d0, x.d1, x.d2, x.d3, x.d4, x.d5⟩)) (HF0 : Hid (∀ o, W0.frozen? ⟨w3.heap.size + 1, o, none⟩ = false)) (HB01 : Hid (Below W1.heap.size W1 W0)) (HN46 : Hid (c.threads = 4 ∨ c.threads = 6))
    (wr : World) (L : List Wish) (A : Option Addr) (cp : Nat) (hL20 : L.length ≤ 20) (hLw : ∀ y ∈ L, y.wf) (hR : RowIn W0 wr (w3.heap.size + 1) 3 43 L.length (L.flatMap Wish.cells) A cp) :
    ∀ (v0 v2 v4 v7 v8 v9 v10 v11 v12 v13 v14 v15 v16 v17 v18 v19 v20 v21 v22 v23 v24 v25 v26 v27 v28 v29 v30 v31 v32 v33 v34 v35 v36 v37 v38 v39 v40 v41 v42 v43 v44 v45 v46 v47 v48 v49 v50 v51 v52 v53 v54 v55 v56 v57 v58 v59 v60 v61 v62 v63 v64 v65 v66 v67 v68 v69 v70 v71 v72 v73 v74 v75 v76 v77 v78 v79 v80 v81 v82 v83 v84 v85 v86 v87 v88 v89 v90 v91 v92 v93 v94 v95 v96 v97 v98 v99 v100 v101 v102 v103 v104 v105 v106 v107 v108 v109 v110 v111 v112 v113 v114 v115 v116 v117 v118 v119 v120 v121 v122 v123 v124 v125 v126 v127 v128 v129 v130 v131 v132 v133 v134 v135 v136 v137 v138 v139 v140 v141 v142 v143 v144 v145 v146 v147 v148 v149 v150 v151 v152 v153 v154 v155 v156 v157 v158 v159 v160 v161 v162 v163 v164 v165 v166 v167 v168 v169 v170 v171 v172 v173 v174 v175 v176 v177 v178 v179 v180 v181 v182 v183 v184 v185 v186 v187 v188 v189 v190 v191 v192 v193 v194 v195 v196 v197 v198 v199 v200 v201 v202 v203 v204 v205 v206 v207 v208 v209 v210 v211 v212 v213 v214 v215 v216 v217 v218 v219 v220 v221 v222 v223 v224 v225 v226 v227 v228 v229 v230 v231 v232 v233 v234 v235 v236 v237 v238 v239 v240 v241 v242 v243 v244 v245 v246 v247 v248 v249 v250 v251 v252 v253 v254 v255 v256 v257 v258 v259 v260 v261 v262 v263 v264 v265 v266 v267 v268 v269 v270 v271 v272 v273 v274 : Value), Code.wp Try.prog topK0 (bodyPost Try.prog Try.f3 fun e w' => e = .returned (.bool true) ∧ Below w.heap.size w w') { tmps := #[v0, .pointer (some ⟨w.heap.size, 0, none⟩), v2, .pointer (some ⟨w3.heap.size, 0, none⟩), v4, .int .i64 (c.crosses.length : Nat), .pointer (some ⟨w3.heap.size + 1, 0, none⟩), v7, v8, v9, v10, v11, v12, v13, v14, v15, v16, v17, v18, v19, v20, v21, v22, v23, v24, v25, v26, v27, v28, v29, v30, v31, v32, v33, v34, v35, v36, v37, v38, v39, v40, v41, v42, v43, v44, v45, v46, v47, v48, v49, v50, v51, v52, v53, v54, v55, v56, v57, v58, v59, v60, v61, v62, v63, v64, v65, v66, v67, v68, v69, v70, v71, v72, v73, v74, v75, v76, v77, v78, v79, v80, v81, v82, v83, v84, v85, v86, v87, v88, v89, v90, v91, v92, v93, v94, v95, v96, v97, v98, v99, v100, v101, v102, v103, v104, v105, v106, v107, v108, v109, v110, v111, v112, v113, v114, v115, v116, v117, v118, v119, v120, v121, v122, v123, v124, v125, v126, v127, v128, v129, v130, v131, v132, v133, v134, v135, v136, v137, v138, v139, v140, v141, v142, v143, v144, v145, v146, v147, v148, v149, v150, v151, v152, v153, v154, v155, v156, v157, v158, v159, v160, v161, v162, v163, v164, v165, v166, v167, v168, v169, v170, v171, v172, v173, v174, v175, v176, v177, v178, v179, v180, v181, v182, v183, v184, v185, v186, v187, v188, v189, v190, v191, v192, v193, v194, v195, v196, v197, v198, v199, v200, v201, v202, v203, v204, v205, v206, v207, v208, v209, v210, v211, v212, v213, v214, v215, v216, v217, v218, v219, v220, v221, v222, v223, v224, v225, v226, v227, v228, v229, v230, v231, v232, v233, v234, v235, v236, v237, v238, v239, v240, v241, v242, v243, v244, v245, v246, v247, v248, v249, v250, v251, v252, v253, v254, v255, v256, v257, v258, v259, v260, v261, v262, v263, v264, v265, v266, v267, v268, v269, v270, v271, v272, v273, v274], defers := [] } wr := by
  intros
  conv => arg 2; whnf
  obtain ⟨V0, hV0⟩ : ∃ V0 : World, V0 = wr := ⟨_, rfl⟩
  have hbr : Below W1.heap.size W1 V0 := by rw [hV0]; exact HB01.out.trans (by have := hR.below hTl; rwa [← hsz1] at this)
  have hR : RowIn W0 V0 (w3.heap.size + 1) 3 43 L.length (L.flatMap Wish.cells) A cp := by rw [hV0]; exact hR
  have hTl2 : w3.heap.size + 1 < V0.heap.size := Nat.lt_of_lt_of_le hTl hR.size
  have hz4 : V0.cell? ⟨w3.heap.size + 1, 4, none⟩ = some (.slice none 0 0) := (hR.oth 4 (by omega)).trans HT0.out.z4
  have HBR := Lib.hid hbr
  have HR := Lib.hid hR
  have HLW := Lib.hid hLw
  have HZ4 := Lib.hid hz4
  have hX0 := HX.out.below hbr
  have HX0 := Lib.hid hX0
  obtain ⟨hXlt, x0, x1, x2, x3, x4, x5, x6, x7, x8, x9⟩ := id hX0
  rw [hV0] at hXlt x0 x1 x2 x3 x4 x5 x6 x7 x8 x9
  clear hbr hR hLw hz4 hX0
  go_wp2_with fail
  clear hXlt x0 x1 x2 x3 x4 x5 x6 x7 x8 x9
  rename_i K1 hK1
  have rest1 : ∀ (wr : World) (P : List (Int × Int)) (A2 : Option Addr) (c2 : Nat), P.length ≤ 20 → (∀ y ∈ P, I64 y.1 ∧ I64 y.2) → RowIn V0 wr (w3.heap.size + 1) 4 46 P.length (P.flatMap pairCells) A2 c2 → ∀ (v0 v2 v4 v7 v8 v9 v10 v11 v12 v13 v14 v15 v16 v17 v18 v19 v20 v21 v22 v23 v24 v25 v26 v27 v28 v29 v30 v31 v32 v33 v34 v35 v36 v37 v38 v39 v40 v41 v42 v43 v44 v45 v46 v47 v48 v49 v50 v51 v52 v53 v54 v55 v56 v57 v58 v59 v60 v61 v62 v63 v64 v65 v66 v67 v68 v69 v70 v71 v72 v73 v74 v75 v76 v77 v78 v79 v80 v81 v82 v83 v84 v85 v86 v87 v88 v89 v90 v91 v92 v93 v94 v95 v96 v97 v98 v99 v100 v101 v102 v103 v104 v105 v106 v107 v108 v109 v110 v111 v112 v113 v114 v115 v116 v117 v118 v119 v120 v121 v122 v123 v124 v125 v126 v127 v128 v129 v130 v131 v132 v133 v134 v135 v136 v137 v138 v139 v140 v141 v142 v143 v144 v145 v146 v147 v148 v149 v150 v151 v152 v153 v154 v155 v156 v157 v158 v159 v160 v161 v162 v163 v164 v165 v166 v167 v168 v169 v170 v171 v172 v173 v174 v175 v176 v177 v178 v179 v180 v181 v182 v183 v184 v185 v186 v187 v188 v189 v190 v191 v192 v193 v194 v195 v196 v197 v198 v199 v200 v201 v202 v203 v204 v205 v206 v207 v208 v209 v210 v211 v212 v213 v214 v215 v216 v217 v218 v219 v220 v221 v222 v223 v224 v225 v226 v227 v228 v229 v230 v231 v232 v233 v234 v235 v236 v237 v238 v239 v240 v241 v242 v243 v244 v245 v246 v247 v248 v249 v250 v251 v252 v253 v254 v255 v256 v257 v258 v259 v260 v261 v262 v263 v264 v265 v266 v267 v268 v269 v270 v271 v272 v273 v274 : Value), K1 { tmps := #[v0, .pointer (some ⟨w.heap.size, 0, none⟩), v2, .pointer (some ⟨w3.heap.size, 0, none⟩), v4, .int .i64 (c.crosses.length : Nat), .pointer (some ⟨w3.heap.size + 1, 0, none⟩), v7, v8, v9, v10, v11, v12, v13, v14, v15, v16, v17, v18, v19, v20, v21, v22, v23, v24, v25, v26, v27, v28, v29, v30, v31, v32, v33, v34, v35, v36, v37, v38, v39, v40, v41, v42, v43, v44, v45, v46, v47, v48, v49, v50, v51, v52, v53, v54, v55, v56, v57, v58, v59, v60, v61, v62, v63, v64, v65, v66, v67, v68, v69, v70, v71, v72, v73, v74, v75, v76, v77, v78, v79, v80, v81, v82, v83, v84, v85, v86, v87, v88, v89, v90, v91, v92, v93, v94, v95, v96, v97, v98, v99, v100, v101, v102, v103, v104, v105, v106, v107, v108, v109, v110, v111, v112, v113, v114, v115, v116, v117, v118, v119, v120, v121, v122, v123, v124, v125, v126, v127, v128, v129, v130, v131, v132, v133, v134, v135, v136, v137, v138, v139, v140, v141, v142, v143, v144, v145, v146, v147, v148, v149, v150, v151, v152, v153, v154, v155, v156, v157, v158, v159, v160, v161, v162, v163, v164, v165, v166, v167, v168, v169, v170, v171, v172, v173, v174, v175, v176, v177, v178, v179, v180, v181, v182, v183, v184, v185, v186, v187, v188, v189, v190, v191, v192, v193, v194, v195, v196, v197, v198, v199, v200, v201, v202, v203, v204, v205, v206, v207, v208, v209, v210, v211, v212, v213, v214, v215, v216, v217, v218, v219, v220, v221, v222, v223, v224, v225, v226, v227, v228, v229, v230, v231, v232, v233, v234, v235, v236, v237, v238, v239, v240, v241, v242, v243, v244, v245, v246, v247, v248, v249, v250, v251, v252, v253, v254, v255, v256, v257, v258, v259, v260, v261, v262, v263, v264, v265, v266, v267, v268, v269, v270, v271, v272, v273, v274], defers := [] } wr := by
    intro wr P A2 c2 hP20 hPw hR2
    intros
    refine hK1 _ _ ?_
    exact top_rest1 hsz1 hTl hcl1 hcm1 hul hum hu20 hH HX HCB HC HB HT0 HF0 HB01 HN46 hL20 HLW HR HBR hTl2 wr P A2 c2 hP20 hPw hR2 _ _ _ _ _ _ _ _ _ _ _ _ _ _ _ _ _ _ _ _ _ _ _ _ _ _ _ _ _ _ _ _ _ _ _ _ _ _ _ _ _ _ _ _ _ _ _ _ _ _ _ _ _ _ _ _ _ _ _ _ _ _ _ _ _ _ _ _ _ _ _ _ _ _ _ _ _ _ _ _ _ _ _ _ _ _ _ _ _ _ _ _ _ _ _ _ _ _ _ _ _ _ _ _ _ _ _ _ _ _ _ _ _ _ _ _ _ _ _ _ _ _ _ _ _ _ _ _ _ _ _ _ _ _ _ _ _ _ _ _ _ _ _ _ _ _ _ _ _ _ _ _ _ _ _ _ _ _ _ _ _ _ _ _ _ _ _ _ _ _ _ _ _ _ _ _ _ _ _ _ _ _ _ _ _ _ _ _ _ _ _ _ _ _ _ _ _ _ _ _ _ _ _ _ _ _ _ _ _ _ _ _ _ _ _ _ _ _ _ _ _ _ _ _ _ _ _ _ _ _ _ _ _ _ _ _ _ _ _ _ _ _ _ _ _ _ _ _ _ _ _ _ _ _ _ _ _ _ _ _ _ _ _ _ _ _ _ _ _ _ _
  clear hK1
  go_loopw [9] (fun i wr => ∃ (k : Nat) (P : List (Int × Int)) (A2 : Option Addr) (c2 : Nat), k ≤ x.unlike.length ∧ i = .int .i64 k ∧ P.length ≤ k ∧ (∀ y ∈ P, I64 y.1 ∧ I64 y.2) ∧ RowIn V0 wr (w3.heap.size + 1) 4 46 P.length (P.flatMap pairCells) A2 c2) (fun i _ => x.unlike.length - (intOf i).toNat)
  case atStart => exact ⟨0, [], none, 0, Nat.zero_le _, rfl, Nat.le_refl _, (fun y hy => by cases hy), by rw [← hV0]; exact RowIn.start (A := none) (c := 0) HZ4.out⟩
  case round =>
    clear hV0
    obtain ⟨k, P, A2, c2, hk, rfl, hPk, hPw, hR2⟩ := hrel
    have hbr : Below W1.heap.size W1 wr := HBR.out.trans (by have := hR2.below hTl2; rwa [← hsz1] at this)
    obtain ⟨hXlt, x0, x1, x2, x3, x4, x5, x6, x7, x8, x9⟩ := HX.out.below hbr
    have HR2 := Lib.hid hR2
    have HPW := Lib.hid hPw
    clear hR2 hPw
    by_cases hgo : k < x.unlike.length ∧ 1 < c.crosses.length
    · obtain ⟨hkl, hn1⟩ := hgo
      have hn0 : 0 < c.crosses.length := by omega
      have hn1i : (1 : Int) < (c.crosses.length : Int) := by omega
      have hn0i : (0 : Int) < (c.crosses.length : Int) := by omega
      have hnil : c.crosses ≠ [] := fun e => by rw [e] at hn0; cases hn0
      have hkli : (k : Int) < (x.unlike.length : Int) := by omega
      obtain ⟨b, off, huA, hb, k0, k1⟩ := (hH.out.below hbr).unlike.u16 hkl
      obtain ⟨hp0, hq0⟩ := hH.out.uwf _ (List.getElem_mem hkl)
      subst huA
      generalize x.unlike[k].1 = p at *
      generalize x.unlike[k].2 = q at *
      obtain ⟨pt, hpd⟩ : ∃ pt : Int, pt = (p : Int) % (c.crosses.length : Int) := ⟨_, rfl⟩
      have hpB : 0 ≤ pt ∧ pt < (c.crosses.length : Int) := by rw [hpd]; exact ⟨Int.emod_nonneg _ (by omega), Int.emod_lt_of_pos _ hn0i⟩
      have hpm : (p : Int).tmod (c.crosses.length : Int) = pt := by rw [hpd, Int.tmod_eq_emod_of_nonneg (by omega)]
      have hpw : IntKind.i64.wrap (p : Int) = (p : Int) := IntWalk.i64_in _ (by omega)
      obtain ⟨qt, hqd⟩ : ∃ qt : Int, qt = (q : Int) % (c.crosses.length : Int) := ⟨_, rfl⟩
      have hqB : 0 ≤ qt ∧ qt < (c.crosses.length : Int) := by rw [hqd]; exact ⟨Int.emod_nonneg _ (by omega), Int.emod_lt_of_pos _ hn0i⟩
      have hqm : (q : Int).tmod (c.crosses.length : Int) = qt := by rw [hqd, Int.tmod_eq_emod_of_nonneg (by omega)]
      have hqw : IntKind.i64.wrap (q : Int) = (q : Int) := IntWalk.i64_in _ (by omega)
      clear hpd hqd
      go_wp2_with fail
      go_region
      have HRV := Lib.hid (HR2.out.grow hTl2 (Below.refl _ wr).drew)
      clear k0 k1 x0 x1 x2 x3 x4 x5 x6 x7 x8 x9 hbr HR2 hXlt hb hpw hqw hpm hqm
      by_cases hpq : pt = qt
      · have hpqB : (pt != qt) = false := by simp [hpq]
        have HPQ := Lib.hid hpq
        clear hpq
        go_wp2_with fail
        go_roundw
        case rel => exact ⟨k + 1, P, A2, c2, by omega, by go_num, by omega, HPW.out, HRV.out⟩
        case measure => simp [intOf]; omega
      · have hpqB : (pt != qt) = true := by simp [hpq]
        have HPQ := Lib.hid hpq
        clear hpq
        generalize wr.drew = wd at *
        have y4 := HRV.out.cell
        have hsd := HRV.out.size
        have hPl : P.length ≤ 20 := by omega
        obtain ⟨i0, hi0, hz0, hz1, hz2⟩ := info_parts info_two
        go_wp2_with (refine wpList_append_lies _ rfl (.tmp 132) (.tmp 136) 39 rfl V0.heap.size 46 i0 (.agg #[.int .i64 0, .int .i64 0]) 2 16 Try.underlying39 hi0 hz0 hz1 hz2 rfl (by omega) (.slice A2 P.length c2) P.length (P.flatMap pairCells) rfl ?hown ⟨wd.heap.size, 0, none⟩ 1 1 [.int .i64 pt, .int .i64 qt] rfl rfl ?hnews (two_ones (pt, qt)) (by omega) ?hmx (by omega) ?hbs _ rfl ?hcont)
        case hown => exact HRV.out.own.alloc _
        case hnews => exact lit_two wd _ _ _
        case hmx => unfold maxLen; omega
        case hbs => simp; omega
        case hcont =>
          intro g' cap w5 hown5 hgr5 hor5 _
          have hown5 : w5.ownsRow V0.heap.size 46 2 (.slice (some ⟨g', 0, none⟩) (P.length + 1) cap) (P.length + 1) ((P ++ [(pt, qt)]).flatMap pairCells) := by rw [flat_snoc]; exact hown5
          have hM5 := Lib.hid (HRV.out.put hTl2 (below_box (.cells #[.int .i64 pt, .int .i64 qt] 46)) hown5 hgr5)
          have hT5 : w5.heap[w3.heap.size + 1]? = wd.heap[w3.heap.size + 1]? := (hgr5.block _ (by simp; omega) fun e => by have := (HRV.out.own.lt _ e.symm).1; omega).trans (Below.heap_alloc wd _ _ (by omega))
          have hc5 := (World.cell?_of_block (a := ⟨w3.heap.size + 1, 4, none⟩) hT5).trans HRV.out.cell
          have hf5 := (World.frozen?_of_block (a := ⟨w3.heap.size + 1, 4, none⟩) hT5).trans ((HRV.out.fr 4).trans ((HR.out.fr 4).trans (HF0.out 4)))
          clear hown5 hgr5 hor5 hT5 y4
          go_wp2_with fail
          go_roundw
          case rel => exact ⟨k + 1, P ++ [(pt, qt)], _, _, by omega, by go_num, by simp; omega, (fun y hy => by
            rcases List.mem_append.1 hy with hy | hy
            · exact HPW.out y hy
            · obtain rfl := List.mem_singleton.1 hy
              exact ⟨by show I64 pt; unfold I64; omega, by show I64 qt; unfold I64; omega⟩), by rw [List.length_append]; exact hM5.out⟩
          case measure => simp [intOf]; omega
    · have R1 := rest1 wr P A2 c2 (by omega) HPW.out HR2.out
      clear rest1
      by_cases hkl : k < x.unlike.length
      · have hkli : (k : Int) < (x.unlike.length : Int) := by omega
        have hn1 : decide (1 < c.crosses.length) = false := decide_eq_false (fun h => hgo ⟨hkl, h⟩)
        have hn1i : ¬ ((1 : Int) < (c.crosses.length : Int)) := fun h => hgo ⟨hkl, by omega⟩
        have hn1d : decide ((1 : Int) < (c.crosses.length : Int)) = false := decide_eq_false hn1i
        clear hgo
        go_wp2_with fail
        apply R1
      · have hkli : ¬ (k : Int) < (x.unlike.length : Int) := by omega
        clear hgo
        go_wp2_with fail
        apply R1
end Go.Proofs.Ytegbbkmppphddaa
