/- The top's law. -/
import Derived.Test.YtegbbkmppphddaaTTop0
set_option linter.unusedVariables false
set_option pp.maxSteps 200000
set_option pp.deepTerms true
set_option linter.unusedSimpArgs false
namespace Go.Proofs.Ytegbbkmppphddaa
open Go.RowKit

set_option maxRecDepth 100000 in
set_option maxHeartbeats 8000000 in
set_option maxRecDepth 100000 in
set_option maxHeartbeats 8000000 in
theorem law_top {w : World} {sA : Option Addr} {sc : Nat} {wA : Option Addr} {wc : Nat} {uA : Option Addr} {uc : Nat} {x : Dye} (h : DyeRd w sA sc wA wc uA uc x) :
    Calls Try.prog 3 #[dyeVal sA sc wA wc uA uc x] w fun e w' => e = .returned (.bool true) ∧ Below w.heap.size w w' := by
  have hsl := h.sheet.len
  have hsm := h.sheet.cap
  have hsp := h.sheet.pairs
  have hwl := h.wlen
  have hwm := h.wcap
  have hul := h.ulen
  have hum := h.ucap
  unfold maxLen at hsm hwm hum
  go_enter Try.func3, Try.ntmps3
  go_wp2_with fail
  have hbx := below_box (w := w) (.cells #[.int .i64 x.sheet.pairs, .slice sA x.sheet.works.length sc, .slice wA x.wishes.length wc, .slice uA x.unlike.length uc, .int .i64 x.d0, .int .i64 x.d1, .int .i64 x.d2, .int .i64 x.d3, .int .i64 x.d4, .int .i64 x.d5] 29)
  have hX := dyeBox_box w sA sc wA wc uA uc x 29
  have h := h.below hbx
  refine (awake_any).mono ?_
  rintro e w1 ⟨rfl, hb1⟩
  have hX := hX.below hb1
  have h := h.below hb1
  have hB := hbx.trans (hb1.mono hbx.size)
  clear hb1 hbx
  obtain ⟨hXlt, x0, x1, x2, x3, x4, x5, x6, x7, x8, x9⟩ := id hX
  by_cases hg0 : (20 : Int) < (x.sheet.works.length : Int)
  · have hd0 : decide ((20 : Int) < (x.sheet.works.length : Int)) = true := decide_eq_true hg0
    clear hg0
    go_wp2_with fail
    exact bodyPost_ret (by simp [results, Try.f3, go_sem]) rfl ⟨rfl, hB⟩
  have hd0 : decide ((20 : Int) < (x.sheet.works.length : Int)) = false := decide_eq_false hg0
  by_cases hg1 : (20 : Int) < (x.wishes.length : Int)
  · have hd1 : decide ((20 : Int) < (x.wishes.length : Int)) = true := decide_eq_true hg1
    clear hg1
    go_wp2_with fail
    exact bodyPost_ret (by simp [results, Try.f3, go_sem]) rfl ⟨rfl, hB⟩
  have hd1 : decide ((20 : Int) < (x.wishes.length : Int)) = false := decide_eq_false hg1
  by_cases hg2 : (20 : Int) < (x.unlike.length : Int)
  · have hd2 : decide ((20 : Int) < (x.unlike.length : Int)) = true := decide_eq_true hg2
    clear hg2
    go_wp2_with fail
    exact bodyPost_ret (by simp [results, Try.f3, go_sem]) rfl ⟨rfl, hB⟩
  have hd2 : decide ((20 : Int) < (x.unlike.length : Int)) = false := decide_eq_false hg2
  by_cases hg3 : (3 : Int) < x.sheet.pairs
  · have hd3 : decide ((3 : Int) < x.sheet.pairs) = true := decide_eq_true hg3
    clear hg3
    go_wp2_with fail
    exact bodyPost_ret (by simp [results, Try.f3, go_sem]) rfl ⟨rfl, hB⟩
  have hd3 : decide ((3 : Int) < x.sheet.pairs) = false := decide_eq_false hg3
  have hw20 : x.wishes.length ≤ 20 := by omega
  have hu20 : x.unlike.length ≤ 20 := by omega
  have hp3 : x.sheet.pairs ≤ 3 := by omega
  clear hg0 hg1 hg2 hg3
  go_wp2_with fail
  refine (refsheet_any h.sheet).mono ?_
  rintro e w2 ⟨rfl, hb2⟩
  have hX := hX.below hb2
  have h := h.below hb2
  have hB := hB.trans (hb2.mono hB.size)
  clear hb2 x0 x1 x2 x3 x4 x5 x6 x7 x8 x9 hXlt
  obtain ⟨hXlt, x0, x1, x2, x3, x4, x5, x6, x7, x8, x9⟩ := id hX
  by_cases hs0 : sheetB x.sheet = 0
  rotate_left
  · have hs1 : (sheetB x.sheet != 0) = true := by simp [hs0]
    clear hs0
    go_wp2_with fail
    exact bodyPost_ret (by simp [results, Try.f3, go_sem]) rfl ⟨rfl, hB⟩
  have hok := Lib.hid (sheetB_ok hs0)
  have hs1 : (sheetB x.sheet != 0) = false := by simp [hs0]
  clear hs0
  go_wp2_with fail
  refine (make_prog h.sheet hok.out).mono ?_
  rintro e w3 ⟨cA, cc, pA, pc, rfl, hC, hb3⟩
  have hX := hX.below hb3
  have h := h.below hb3
  have hB := hB.trans (hb3.mono hB.size)
  clear hb3 x0 x1 x2 x3 x4 x5 x6 x7 x8 x9 hXlt
  obtain ⟨hXlt, x0, x1, x2, x3, x4, x5, x6, x7, x8, x9⟩ := id hX
  have hthr : (makeC x.sheet).threads = 2 * x.sheet.pairs := rfl
  have hn46 : (makeC x.sheet).threads = 4 ∨ (makeC x.sheet).threads = 6 := by have := hok.out.pairs; omega
  have HN46 := Lib.hid hn46
  clear hthr hn46
  generalize makeC x.sheet = c at *
  go_wp2_with fail
  have hbx := below_box (w := w3) (.cells #[.int .i64 c.threads, .slice cA c.crosses.length cc, .slice pA c.pins.length pc] 36)
  have hCB := clothBox_box w3 cA cc pA pc c 36
  have hX := hX.below hbx
  have h := h.below hbx
  have hC := hC.below hbx
  have hB := hB.trans (hbx.mono hB.size)
  have hsz1 : (w3.alloc (.cells #[.int .i64 c.threads, .slice cA c.crosses.length cc, .slice pA c.pins.length pc] 36)).heap.size = w3.heap.size + 1 := by simp
  clear hbx x0 x1 x2 x3 x4 x5 x6 x7 x8 x9 hXlt
  generalize (w3.alloc (.cells #[.int .i64 c.threads, .slice cA c.crosses.length cc, .slice pA c.pins.length pc] 36)) = W1 at *
  have hb01 := below_box (w := W1) (.cells #[.int .i64 c.threads, .slice cA c.crosses.length cc, .slice pA c.pins.length pc, .slice none 0 0, .slice none 0 0, .int .i64 x.d0, .int .i64 x.d1, .int .i64 x.d2, .int .i64 x.d3, .int .i64 x.d4, .int .i64 x.d5] 41)
  have hT0 : TaskBox (W1.alloc (.cells #[.int .i64 c.threads, .slice cA c.crosses.length cc, .slice pA c.pins.length pc, .slice none 0 0, .slice none 0 0, .int .i64 x.d0, .int .i64 x.d1, .int .i64 x.d2, .int .i64 x.d3, .int .i64 x.d4, .int .i64 x.d5] 41)) (w3.heap.size + 1) cA cc pA pc none 0 none 0 ⟨c, [], [], x.d0, x.d1, x.d2, x.d3, x.d4, x.d5⟩ := by
    rw [← hsz1]
    constructor <;> simp
  have hF0 : ∀ o, (W1.alloc (.cells #[.int .i64 c.threads, .slice cA c.crosses.length cc, .slice pA c.pins.length pc, .slice none 0 0, .slice none 0 0, .int .i64 x.d0, .int .i64 x.d1, .int .i64 x.d2, .int .i64 x.d3, .int .i64 x.d4, .int .i64 x.d5] 41)).frozen? ⟨w3.heap.size + 1, o, none⟩ = false := by
    rw [← hsz1]
    intro o
    simp
  generalize (W1.alloc (.cells #[.int .i64 c.threads, .slice cA c.crosses.length cc, .slice pA c.pins.length pc, .slice none 0 0, .slice none 0 0, .int .i64 x.d0, .int .i64 x.d1, .int .i64 x.d2, .int .i64 x.d3, .int .i64 x.d4, .int .i64 x.d5] 41)) = W0 at *
  have hTl := hT0.lt
  have hcl1 := hC.clen
  have hcm1 := hC.ccap
  unfold maxLen at hcm1
  have hH := Lib.hid h
  have HX := Lib.hid hX
  have HCB := Lib.hid hCB
  have HC := Lib.hid hC
  have HB := Lib.hid hB
  have HT0 := Lib.hid hT0
  have HF0 := Lib.hid hF0
  have HB01 := Lib.hid hb01
  clear h hX hCB hC hB hT0 hF0 hb01
  rename_i K0 hK0
  have rest0 : ∀ (wr : World) (L : List Wish) (A : Option Addr) (cp : Nat), L.length ≤ 20 → (∀ y ∈ L, y.wf) → RowIn W0 wr (w3.heap.size + 1) 3 43 L.length (L.flatMap Wish.cells) A cp → ∀ (v0 v2 v4 v7 v8 v9 v10 v11 v12 v13 v14 v15 v16 v17 v18 v19 v20 v21 v22 v23 v24 v25 v26 v27 v28 v29 v30 v31 v32 v33 v34 v35 v36 v37 v38 v39 v40 v41 v42 v43 v44 v45 v46 v47 v48 v49 v50 v51 v52 v53 v54 v55 v56 v57 v58 v59 v60 v61 v62 v63 v64 v65 v66 v67 v68 v69 v70 v71 v72 v73 v74 v75 v76 v77 v78 v79 v80 v81 v82 v83 v84 v85 v86 v87 v88 v89 v90 v91 v92 v93 v94 v95 v96 v97 v98 v99 v100 v101 v102 v103 v104 v105 v106 v107 v108 v109 v110 v111 v112 v113 v114 v115 v116 v117 v118 v119 v120 v121 v122 v123 v124 v125 v126 v127 v128 v129 v130 v131 v132 v133 v134 v135 v136 v137 v138 v139 v140 v141 v142 v143 v144 v145 v146 v147 v148 v149 v150 v151 v152 v153 v154 v155 v156 v157 v158 v159 v160 v161 v162 v163 v164 v165 v166 v167 v168 v169 v170 v171 v172 v173 v174 v175 v176 v177 v178 v179 v180 v181 v182 v183 v184 v185 v186 v187 v188 v189 v190 v191 v192 v193 v194 v195 v196 v197 v198 v199 v200 v201 v202 v203 v204 v205 v206 v207 v208 v209 v210 v211 v212 v213 v214 v215 v216 v217 v218 v219 v220 v221 v222 v223 v224 v225 v226 v227 v228 v229 v230 v231 v232 v233 v234 v235 v236 v237 v238 v239 v240 v241 v242 v243 v244 v245 v246 v247 v248 v249 v250 v251 v252 v253 v254 v255 v256 v257 v258 v259 v260 v261 v262 v263 v264 v265 v266 v267 v268 v269 v270 v271 v272 v273 v274 : Value), K0 { tmps := #[v0, .pointer (some ⟨w.heap.size, 0, none⟩), v2, .pointer (some ⟨w3.heap.size, 0, none⟩), v4, .int .i64 (c.crosses.length : Nat), .pointer (some ⟨w3.heap.size + 1, 0, none⟩), v7, v8, v9, v10, v11, v12, v13, v14, v15, v16, v17, v18, v19, v20, v21, v22, v23, v24, v25, v26, v27, v28, v29, v30, v31, v32, v33, v34, v35, v36, v37, v38, v39, v40, v41, v42, v43, v44, v45, v46, v47, v48, v49, v50, v51, v52, v53, v54, v55, v56, v57, v58, v59, v60, v61, v62, v63, v64, v65, v66, v67, v68, v69, v70, v71, v72, v73, v74, v75, v76, v77, v78, v79, v80, v81, v82, v83, v84, v85, v86, v87, v88, v89, v90, v91, v92, v93, v94, v95, v96, v97, v98, v99, v100, v101, v102, v103, v104, v105, v106, v107, v108, v109, v110, v111, v112, v113, v114, v115, v116, v117, v118, v119, v120, v121, v122, v123, v124, v125, v126, v127, v128, v129, v130, v131, v132, v133, v134, v135, v136, v137, v138, v139, v140, v141, v142, v143, v144, v145, v146, v147, v148, v149, v150, v151, v152, v153, v154, v155, v156, v157, v158, v159, v160, v161, v162, v163, v164, v165, v166, v167, v168, v169, v170, v171, v172, v173, v174, v175, v176, v177, v178, v179, v180, v181, v182, v183, v184, v185, v186, v187, v188, v189, v190, v191, v192, v193, v194, v195, v196, v197, v198, v199, v200, v201, v202, v203, v204, v205, v206, v207, v208, v209, v210, v211, v212, v213, v214, v215, v216, v217, v218, v219, v220, v221, v222, v223, v224, v225, v226, v227, v228, v229, v230, v231, v232, v233, v234, v235, v236, v237, v238, v239, v240, v241, v242, v243, v244, v245, v246, v247, v248, v249, v250, v251, v252, v253, v254, v255, v256, v257, v258, v259, v260, v261, v262, v263, v264, v265, v266, v267, v268, v269, v270, v271, v272, v273, v274], defers := [] } wr := by
    intro wr L A cp hL20 hLw hR
    intros
    refine hK0 _ _ ?_
    exact top_rest0 hsz1 hTl hcl1 hcm1 hul hum hu20 hH HX HCB HC HB HT0 HF0 HB01 HN46 wr L A cp hL20 hLw hR _ _ _ _ _ _ _ _ _ _ _ _ _ _ _ _ _ _ _ _ _ _ _ _ _ _ _ _ _ _ _ _ _ _ _ _ _ _ _ _ _ _ _ _ _ _ _ _ _ _ _ _ _ _ _ _ _ _ _ _ _ _ _ _ _ _ _ _ _ _ _ _ _ _ _ _ _ _ _ _ _ _ _ _ _ _ _ _ _ _ _ _ _ _ _ _ _ _ _ _ _ _ _ _ _ _ _ _ _ _ _ _ _ _ _ _ _ _ _ _ _ _ _ _ _ _ _ _ _ _ _ _ _ _ _ _ _ _ _ _ _ _ _ _ _ _ _ _ _ _ _ _ _ _ _ _ _ _ _ _ _ _ _ _ _ _ _ _ _ _ _ _ _ _ _ _ _ _ _ _ _ _ _ _ _ _ _ _ _ _ _ _ _ _ _ _ _ _ _ _ _ _ _ _ _ _ _ _ _ _ _ _ _ _ _ _ _ _ _ _ _ _ _ _ _ _ _ _ _ _ _ _ _ _ _ _ _ _ _ _ _ _ _ _ _ _ _ _ _ _ _ _ _ _ _ _ _ _ _ _ _ _ _ _ _ _ _ _ _ _ _
  clear hK0
  go_loopw [7] (fun i wr => ∃ (k : Nat) (L : List Wish) (A : Option Addr) (cp : Nat), k ≤ x.wishes.length ∧ i = .int .i64 k ∧ L.length ≤ k ∧ (∀ y ∈ L, y.wf) ∧ RowIn W0 wr (w3.heap.size + 1) 3 43 L.length (L.flatMap Wish.cells) A cp) (fun i _ => x.wishes.length - (intOf i).toNat)
  case atStart => exact ⟨0, [], none, 0, Nat.zero_le _, rfl, Nat.le_refl _, (fun y hy => by cases hy), RowIn.start (A := none) (c := 0) HT0.out.z3⟩
  case round =>
    obtain ⟨k, L, A, cp, hk, rfl, hLk, hLw, hR⟩ := hrel
    have hbr : Below W1.heap.size W1 wr := HB01.out.trans (by have := hR.below hTl; rwa [← hsz1] at this)
    obtain ⟨hXlt, x0, x1, x2, x3, x4, x5, x6, x7, x8, x9⟩ := HX.out.below hbr
    have HR := Lib.hid hR
    have HLW := Lib.hid hLw
    clear hR hLw
    by_cases hgo : k < x.wishes.length ∧ 0 < c.crosses.length
    · obtain ⟨hkl, hn0⟩ := hgo
      have hn0i : (0 : Int) < (c.crosses.length : Int) := by omega
      have hnil : c.crosses ≠ [] := fun e => by rw [e] at hn0; cases hn0
      have hkli : (k : Int) < (x.wishes.length : Int) := by omega
      obtain ⟨b, off, hwA, hb, k0, k1⟩ := (hH.out.below hbr).wishes.wish hkl
      obtain ⟨hq0, ha0⟩ := hH.out.wwf _ (List.getElem_mem hkl)
      subst hwA
      generalize x.wishes[k].cross = q at *
      generalize x.wishes[k].allowed = a at *
      have hbV := below_box (w := wr) (.cells #[.int .i64 q, .int .u8 (a : Nat)] 43)
      have hBV : Below w.heap.size w (wr.alloc (.cells #[.int .i64 q, .int .u8 (a : Nat)] 43)) := HB.out.trans ((hbr.trans (hbV.mono hbr.size)).mono HB.out.size)
      by_cases hq : q < 0
      · have hdq : decide (q < 0) = true := decide_eq_true hq
        clear hq
        go_wp2_with fail
        exact bodyPost_ret (by simp [results, Try.f3, go_sem]) rfl ⟨rfl, hBV⟩
      · have hdq : decide (q < 0) = false := decide_eq_false hq
        have hqp : 0 ≤ q := by omega
        obtain ⟨qn, rfl⟩ := Int.eq_ofNat_of_zero_le hqp
        obtain ⟨qt, hqd⟩ : ∃ qt : Int, qt = (qn : Int) % (c.crosses.length : Int) := ⟨_, rfl⟩
        have hqB : 0 ≤ qt ∧ qt < (c.crosses.length : Int) := by rw [hqd]; exact ⟨Int.emod_nonneg _ (by omega), Int.emod_lt_of_pos _ hn0i⟩
        have hqm : (qn : Int).tmod (c.crosses.length : Int) = qt := by rw [hqd, Int.tmod_eq_emod_of_nonneg (by omega)]
        clear hqd hq hqp
        obtain ⟨at_, hat⟩ : ∃ at_ : Nat, at_ = a % 64 := ⟨_, rfl⟩
        have hatB : at_ < 64 := by rw [hat]; exact Nat.mod_lt _ (by omega)
        have ham : (a : Int).tmod 64 = (at_ : Int) := by rw [hat, Int.tmod_eq_emod_of_nonneg (by omega)]; omega
        clear hat
        go_upto_region 16 with fail
        have HRV := Lib.hid (HR.out.grow hTl hbV)
        have hS0 : TopQ (w3.heap.size + 1) 3 L.length A cp wr.heap.size (.int .i64 (qn : Nat)) (.int .u8 (a : Nat)) ((wr.alloc (.cells #[.int .i64 (qn : Nat), .int .u8 (a : Nat)] 43)).drew) := ⟨HRV.out.cell, by simp, by simp⟩
        have hWB : wr.heap.size < (wr.alloc (.cells #[.int .i64 (qn : Nat), .int .u8 (a : Nat)] 43)).heap.size := by simp
        have hsV := HRV.out.size
        have hWB2 : W0.heap.size ≤ wr.heap.size := HR.out.size
        have HBV := Lib.hid hBV
        have HAW := Lib.hid (fun g e => (HR.out.own.lt g e).2)
        clear hbV hbr hBV k0 k1 x0 x1 x2 x3 x4 x5 x6 x7 x8 x9 HR
        generalize hWBB : wr.heap.size = WB at *
        generalize (wr.alloc (.cells #[.int .i64 (qn : Nat), .int .u8 (a : Nat)] 43)) = V at *
        clear hWBB
        have hfa : ∀ o, TopQ (w3.heap.size + 1) 3 L.length A cp WB (.int .i64 (qn : Nat)) (.int .u8 (a : Nat)) ((V.alloc (.cells #[.int .i64 qt, .int .u8 (at_ : Nat)] o)).drew) := fun o =>
          hS0.keep (Below.heap_alloc V _ _ (by omega)) (Below.heap_alloc V _ _ hWB)
        have HFA := Lib.hid hfa
        have hLl : L.length ≤ 20 := by omega
        obtain ⟨i0, hi0, hz0, hz1, hz2⟩ := info_parts info_wish
        clear hfa
        refine wp_region_noPanic ?_
        refine wp_region_L (S := (TopQ (w3.heap.size + 1) 3 L.length A cp WB (.int .i64 (qn : Nat)) (.int .u8 (a : Nat)))) (L := 13) (by kernel_rfl) ?_
        refine wpAnyL_take 20 (i := 0) (oi := { dst := some 86, op := Op.fieldAddr 41 (Operand.tmp 6) 1, type := 0, pos := "top22.go:46", after := #[], guard := none }) (v := ?_) rfl (by kernel_rfl) (by kernel_rfl) (by kernel_rfl) (by kernel_rfl) (by kernel_rfl) (fun _ _ _ h => h) (.inl ⟨by rfl, ?_⟩) hS0 ?_
        rotate_left
        · intro w hSw; unfold TopQ at hSw; (try dsimp only at hSw); go_simp; try (with_reducible rfl)
        try simp only [Act.put, List.setIfInBounds_toArray, List.set_cons_zero, List.set_cons_succ]
        refine wpAnyL_take 20 (i := 1) (oi := { dst := some 87, op := Op.load 25 (Operand.tmp 86), type := 25, pos := "top22.go:46", after := #[{ on := 0, ground := Ground.data }], guard := none }) (v := ?_) rfl (by kernel_rfl) (by kernel_rfl) (by kernel_rfl) (by kernel_rfl) (by kernel_rfl) (fun _ _ _ h => h) (.inl ⟨by rfl, ?_⟩) hS0 ?_
        rotate_left
        · intro w hSw; unfold TopQ at hSw; (try dsimp only at hSw); go_simp; try (with_reducible rfl)
        try simp only [Act.put, List.setIfInBounds_toArray, List.set_cons_zero, List.set_cons_succ]
        refine wpAnyL_take 20 (i := 2) (oi := { dst := some 88, op := Op.fieldAddr 43 (Operand.tmp 8) 0, type := 0, pos := "top22.go:46", after := #[], guard := none }) (v := ?_) rfl (by kernel_rfl) (by kernel_rfl) (by kernel_rfl) (by kernel_rfl) (by kernel_rfl) (fun _ _ _ h => h) (.inl ⟨by rfl, ?_⟩) hS0 ?_
        rotate_left
        · intro w hSw; unfold TopQ at hSw; (try dsimp only at hSw); go_simp; try (with_reducible rfl)
        try simp only [Act.put, List.setIfInBounds_toArray, List.set_cons_zero, List.set_cons_succ]
        refine wpAnyL_take 20 (i := 3) (oi := { dst := some 89, op := Op.load 3 (Operand.tmp 88), type := 3, pos := "top22.go:46", after := #[{ on := 2, ground := Ground.data }], guard := none }) (v := ?_) rfl (by kernel_rfl) (by kernel_rfl) (by kernel_rfl) (by kernel_rfl) (by kernel_rfl) (fun _ _ _ h => h) (.inl ⟨by rfl, ?_⟩) hS0 ?_
        rotate_left
        · intro w hSw; unfold TopQ at hSw; (try dsimp only at hSw); go_simp; try (with_reducible rfl)
        try simp only [Act.put, List.setIfInBounds_toArray, List.set_cons_zero, List.set_cons_succ]
        refine wpAnyL_take 20 (i := 4) (oi := { dst := some 90, op := Op.move (Operand.tmp 5), type := 3, pos := "top22.go:46", after := #[], guard := none }) (v := ?_) rfl (by kernel_rfl) (by kernel_rfl) (by kernel_rfl) (by kernel_rfl) (by kernel_rfl) (fun _ _ _ h => h) (.inl ⟨by rfl, ?_⟩) hS0 ?_
        rotate_left
        · intro w hSw; unfold TopQ at hSw; (try dsimp only at hSw); go_simp; try (with_reducible rfl)
        try simp only [Act.put, List.setIfInBounds_toArray, List.set_cons_zero, List.set_cons_succ]
        refine wpAnyL_take 20 (i := 5) (oi := { dst := some 91, op := Op.binOp BinOp.rem 3 (Operand.tmp 89) (Operand.tmp 90) 3, type := 3, pos := "top22.go:46", after := #[{ on := 3, ground := Ground.data }, { on := 4, ground := Ground.data }], guard := none }) (v := ?_) rfl (by kernel_rfl) (by kernel_rfl) (by kernel_rfl) (by kernel_rfl) (by kernel_rfl) (fun _ _ _ h => h) (.inl ⟨by rfl, ?_⟩) hS0 ?_
        rotate_left
        · intro w hSw; unfold TopQ at hSw; (try dsimp only at hSw); go_simp; try (with_reducible rfl)
        try simp only [Act.put, List.setIfInBounds_toArray, List.set_cons_zero, List.set_cons_succ]
        refine wpAnyL_take 20 (i := 6) (oi := { dst := some 92, op := Op.fieldAddr 43 (Operand.tmp 8) 1, type := 0, pos := "top22.go:46", after := #[], guard := none }) (v := ?_) rfl (by kernel_rfl) (by kernel_rfl) (by kernel_rfl) (by kernel_rfl) (by kernel_rfl) (fun _ _ _ h => h) (.inl ⟨by rfl, ?_⟩) hS0 ?_
        rotate_left
        · intro w hSw; unfold TopQ at hSw; (try dsimp only at hSw); go_simp; try (with_reducible rfl)
        try simp only [Act.put, List.setIfInBounds_toArray, List.set_cons_zero, List.set_cons_succ]
        refine wpAnyL_take 20 (i := 7) (oi := { dst := some 93, op := Op.load 5 (Operand.tmp 92), type := 5, pos := "top22.go:46", after := #[{ on := 6, ground := Ground.data }], guard := none }) (v := ?_) rfl (by kernel_rfl) (by kernel_rfl) (by kernel_rfl) (by kernel_rfl) (by kernel_rfl) (fun _ _ _ h => h) (.inl ⟨by rfl, ?_⟩) hS0 ?_
        rotate_left
        · intro w hSw; unfold TopQ at hSw; (try dsimp only at hSw); go_simp; try (with_reducible rfl)
        try simp only [Act.put, List.setIfInBounds_toArray, List.set_cons_zero, List.set_cons_succ]
        refine wpAnyL_take 20 (i := 8) (oi := { dst := some 94, op := Op.binOp BinOp.rem 5 (Operand.tmp 93) (Operand.const (Value.int IntKind.u8 64)) 5, type := 5, pos := "top22.go:46", after := #[{ on := 7, ground := Ground.data }], guard := none }) (v := ?_) rfl (by kernel_rfl) (by kernel_rfl) (by kernel_rfl) (by kernel_rfl) (by kernel_rfl) (fun _ _ _ h => h) (.inl ⟨by rfl, ?_⟩) hS0 ?_
        rotate_left
        · intro w hSw; unfold TopQ at hSw; (try dsimp only at hSw); go_simp; try (with_reducible rfl)
        try simp only [Act.put, List.setIfInBounds_toArray, List.set_cons_zero, List.set_cons_succ]
        refine wpAnyL_take 20 (i := 9) (oi := { dst := some 95, op := Op.build 43 #[(0, Operand.tmp 91), (1, Operand.tmp 94)], type := 43, pos := "top22.go:46", after := #[{ on := 5, ground := Ground.data }, { on := 8, ground := Ground.data }], guard := none }) (v := ?_) rfl (by kernel_rfl) (by kernel_rfl) (by kernel_rfl) (by kernel_rfl) (by kernel_rfl) (fun _ _ _ h => h) (.inl ⟨by rfl, ?_⟩) hS0 ?_
        rotate_left
        · intro w hSw; unfold TopQ at hSw; (try dsimp only at hSw); go_simp; try (with_reducible rfl)
        try simp only [Act.put, List.setIfInBounds_toArray, List.set_cons_zero, List.set_cons_succ]
        refine wpAnyL_one (i := 10) (o := { dst := some 96, op := Op.buildSlice 25 1 #[(0, Operand.tmp 95)], type := 25, pos := "top22.go:46", after := #[{ on := 9, ground := Ground.data }], guard := none }) (by kernel_rfl) rfl (by rfl) (fun K hK => ?_)
        go_simp
        refine hK _ _ (fun _ => HFA.out _) ?_
        clear hK K
        try simp only [Act.put, List.setIfInBounds_toArray, List.set_cons_zero, List.set_cons_succ]
        refine wpAnyL_one (i := 11) (o := { dst := some 97, op := Op.call { callee := Callee.builtin Builtin.append, args := #[Operand.tmp 87, Operand.tmp 96], argTypes := #[25, 25] }, type := 25, pos := "top22.go:46", after := #[{ on := 1, ground := Ground.data }, { on := 10, ground := Ground.data }], guard := none }) (by kernel_rfl) rfl (by rfl) (fun K hK => ?_)
        refine wp_append_lies _ (.tmp 87) (.tmp 96) 25 rfl W0.heap.size 43 i0 (.agg #[.int .i64 0, .int .u8 0]) 2 16 Try.underlying25 hi0 hz0 hz1 hz2 rfl (by omega) (.slice A L.length cp) L.length (L.flatMap Wish.cells) rfl (owns_alloc_drew2 HRV.out.own _) ⟨V.heap.size, 0, none⟩ 1 1 [.int .i64 qt, .int .u8 (at_ : Nat)] rfl rfl ?hnews ?hones (by omega) ?hmx ?hby ?hbs _ rfl ?_
        case hnews => exact lit_two V _ _ _
        case hones => exact Wish.ones ⟨qt, at_⟩
        case hmx => unfold maxLen; omega
        case hby => omega
        case hbs => simp; omega
        intro g' cap w5 hown5 hgr5 hor5 _
        have hown5 : w5.ownsRow W0.heap.size 43 2 (.slice (some ⟨g', 0, none⟩) (L.length + 1) cap) (L.length + 1) ((L ++ [(⟨qt, at_⟩ : Wish)]).flatMap Wish.cells) := by rw [flat_snoc]; exact hown5
        have hM5 := Lib.hid (HRV.out.put hTl ((below_box _).drew) hown5 hgr5)
        have hlow : ∀ b, b < V.heap.size → (Value.slice A L.length cp).ownBlock ≠ some b → w5.heap[b]? = V.heap[b]? := fun b hb hn => (hgr5.block b (by simp; omega) fun e => hn e.symm).trans (Below.heap_alloc V _ b hb)
        have hT5 := hlow (w3.heap.size + 1) (by omega) (fun e => by have := (HRV.out.own.lt _ e).1; omega)
        have hW5 := hlow WB hWB (fun e => by have := HAW.out _ e; omega)
        have hS5 : TopQ (w3.heap.size + 1) 3 L.length A cp WB (.int .i64 (qn : Nat)) (.int .u8 (a : Nat)) w5 := hS0.keep hT5 hW5
        have hc5 := (World.cell?_of_block (a := ⟨w3.heap.size + 1, 3, none⟩) hT5).trans HRV.out.cell
        have hf5 := (World.frozen?_of_block (a := ⟨w3.heap.size + 1, 3, none⟩) hT5).trans ((HRV.out.fr 3).trans (HF0.out 3))
        clear hown5 hgr5 hor5 hlow hT5 hW5
        refine hK _ _ (fun _ => hS5) ?_
        clear hK K
        try simp only [Act.put, List.setIfInBounds_toArray, List.set_cons_zero, List.set_cons_succ]
        refine wpAnyL_take 20 (i := 12) (oi := { dst := some 98, op := Op.fieldAddr 41 (Operand.tmp 6) 1, type := 0, pos := "top22.go:46", after := #[{ on := 0, ground := Ground.phase }, { on := 1, ground := Ground.phase }, { on := 2, ground := Ground.phase }, { on := 3, ground := Ground.phase }, { on := 4, ground := Ground.phase }, { on := 5, ground := Ground.phase }, { on := 6, ground := Ground.phase }, { on := 7, ground := Ground.phase }, { on := 8, ground := Ground.phase }, { on := 9, ground := Ground.phase }, { on := 10, ground := Ground.phase }, { on := 11, ground := Ground.phase }], guard := none }) (v := ?_) rfl (by kernel_rfl) (by kernel_rfl) (by kernel_rfl) (by kernel_rfl) (by kernel_rfl) (fun _ _ _ h => h) (.inl ⟨by rfl, ?_⟩) (by assumption) ?_
        rotate_left
        · intro w hSw; unfold TopQ at hSw; (try dsimp only at hSw); go_simp; try (with_reducible rfl)
        try simp only [Act.put, List.setIfInBounds_toArray, List.set_cons_zero, List.set_cons_succ]
        refine wpAnyL_one (i := 13) (o := { dst := none, op := Op.store 25 (Operand.tmp 98) (Operand.tmp 97), type := 0, pos := "top22.go:46", after := #[{ on := 12, ground := Ground.data }, { on := 11, ground := Ground.data }, { on := 11, ground := Ground.chain }, { on := 0, ground := Ground.phase }, { on := 1, ground := Ground.phase }, { on := 2, ground := Ground.phase }, { on := 3, ground := Ground.phase }, { on := 4, ground := Ground.phase }, { on := 5, ground := Ground.phase }, { on := 6, ground := Ground.phase }, { on := 7, ground := Ground.phase }, { on := 8, ground := Ground.phase }, { on := 9, ground := Ground.phase }, { on := 10, ground := Ground.phase }, { on := 11, ground := Ground.phase }], guard := none }) (by kernel_rfl) rfl (by rfl) (fun K hK => ?_)
        go_simp
        refine hK _ _ (fun hne => absurd rfl hne) ?_
        clear hK K
        try simp only [Act.put, List.setIfInBounds_toArray, List.set_cons_zero, List.set_cons_succ]
        refine wpAnyL_done (by kernel_rfl) ?_ _
        refine NoPanic.normal ?_
        go_wp2_with fail
        go_roundw
        case rel => exact ⟨k + 1, L ++ [⟨qt, at_⟩], _, _, by omega, by go_num, by simp; omega, (fun y hy => by
          rcases List.mem_append.1 hy with hy | hy
          · exact HLW.out y hy
          · obtain rfl := List.mem_singleton.1 hy
            exact ⟨by show I64 qt; unfold I64; omega, by show at_ < 256; omega⟩), by rw [List.length_append]; exact hM5.out⟩
        case measure => simp [intOf]; omega
    · have R0 := rest0 wr L A cp (by omega) HLW.out HR.out
      clear rest0
      by_cases hkl : k < x.wishes.length
      · have hkli : (k : Int) < (x.wishes.length : Int) := by omega
        have hn0 : decide (0 < c.crosses.length) = false := decide_eq_false (fun h => hgo ⟨hkl, h⟩)
        clear hgo
        go_wp2_with fail
        apply R0
      · have hkli : ¬ (k : Int) < (x.wishes.length : Int) := by omega
        clear hgo
        go_wp2_with fail
        apply R0
end Go.Proofs.Ytegbbkmppphddaa
