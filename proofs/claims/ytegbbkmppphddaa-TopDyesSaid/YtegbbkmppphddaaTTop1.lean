/- The top's law, behind the loop that writes the unlike pairs. -/
import Derived.Test.YtegbbkmppphddaaTDye
set_option linter.unusedVariables false
set_option pp.maxSteps 200000
set_option pp.deepTerms true
set_option linter.unusedSimpArgs false
namespace Go.Proofs.Ytegbbkmppphddaa
open Go.RowKit

set_option maxRecDepth 100000 in
set_option maxHeartbeats 8000000 in
theorem top_rest1 {w w3 W1 W0 : World} {sA : Option Addr} {sc : Nat} {wA : Option Addr} {wc : Nat} {uA : Option Addr} {uc : Nat} {x : Dye} {cA : Option Addr} {cc : Nat} {pA : Option Addr} {pc : Nat} {c : Cloth} (hsz1 : W1.heap.size = w3.heap.size + 1) (hTl : w3.heap.size + 1 < W0.heap.size) (hcl1 : c.crosses.length ≤ cc) (hcm1 : cc ≤ 2 ^ 63 - 1) (hul : x.unlike.length ≤ uc) (hum : uc ≤ 2 ^ 63 - 1) (hu20 : x.unlike.length ≤ 20)
    (hH : Hid (DyeRd W1 sA sc wA wc uA uc x)) (HX : Hid (DyeBox W1 w.heap.size sA sc wA wc uA uc x)) (HCB : Hid (ClothBox W1 w3.heap.size cA cc pA pc c)) (HC : Hid (ClothRd W1 cA cc pA pc c)) (HB : Hid (Below w.heap.size w W1))
    (HT0 : Hid (TaskBox W0 (w3.heap.size + 1) cA cc pA pc none 0 none 0 ⟨c, [], [], x.d0, x.d1, x.d2, x.d3, x.d4, x.d5⟩)) (HF0 : Hid (∀ o, W0.frozen? ⟨w3.heap.size + 1, o, none⟩ = false)) (HB01 : Hid (Below W1.heap.size W1 W0)) (HN46 : Hid (c.threads = 4 ∨ c.threads = 6))
    {V0 : World} {L : List Wish} {A : Option Addr} {cp : Nat} (hL20 : L.length ≤ 20) (HLW : Hid (∀ y ∈ L, y.wf)) (HR : Hid (RowIn W0 V0 (w3.heap.size + 1) 3 43 L.length (L.flatMap Wish.cells) A cp)) (HBR : Hid (Below W1.heap.size W1 V0)) (hTl2 : w3.heap.size + 1 < V0.heap.size)
    (wr : World) (P : List (Int × Int)) (A2 : Option Addr) (c2 : Nat) (hP20 : P.length ≤ 20) (hPw : ∀ y ∈ P, I64 y.1 ∧ I64 y.2) (hR2 : RowIn V0 wr (w3.heap.size + 1) 4 46 P.length (P.flatMap pairCells) A2 c2) :
    ∀ (v0 v2 v4 v7 v8 v9 v10 v11 v12 v13 v14 v15 v16 v17 v18 v19 v20 v21 v22 v23 v24 v25 v26 v27 v28 v29 v30 v31 v32 v33 v34 v35 v36 v37 v38 v39 v40 v41 v42 v43 v44 v45 v46 v47 v48 v49 v50 v51 v52 v53 v54 v55 v56 v57 v58 v59 v60 v61 v62 v63 v64 v65 v66 v67 v68 v69 v70 v71 v72 v73 v74 v75 v76 v77 v78 v79 v80 v81 v82 v83 v84 v85 v86 v87 v88 v89 v90 v91 v92 v93 v94 v95 v96 v97 v98 v99 v100 v101 v102 v103 v104 v105 v106 v107 v108 v109 v110 v111 v112 v113 v114 v115 v116 v117 v118 v119 v120 v121 v122 v123 v124 v125 v126 v127 v128 v129 v130 v131 v132 v133 v134 v135 v136 v137 v138 v139 v140 v141 v142 v143 v144 v145 v146 v147 v148 v149 v150 v151 v152 v153 v154 v155 v156 v157 v158 v159 v160 v161 v162 v163 v164 v165 v166 v167 v168 v169 v170 v171 v172 v173 v174 v175 v176 v177 v178 v179 v180 v181 v182 v183 v184 v185 v186 v187 v188 v189 v190 v191 v192 v193 v194 v195 v196 v197 v198 v199 v200 v201 v202 v203 v204 v205 v206 v207 v208 v209 v210 v211 v212 v213 v214 v215 v216 v217 v218 v219 v220 v221 v222 v223 v224 v225 v226 v227 v228 v229 v230 v231 v232 v233 v234 v235 v236 v237 v238 v239 v240 v241 v242 v243 v244 v245 v246 v247 v248 v249 v250 v251 v252 v253 v254 v255 v256 v257 v258 v259 v260 v261 v262 v263 v264 v265 v266 v267 v268 v269 v270 v271 v272 v273 v274 : Value), Code.wp Try.prog topK1 (bodyPost Try.prog Try.f3 fun e w' => e = .returned (.bool true) ∧ Below w.heap.size w w') { tmps := #[v0, .pointer (some ⟨w.heap.size, 0, none⟩), v2, .pointer (some ⟨w3.heap.size, 0, none⟩), v4, .int .i64 (c.crosses.length : Nat), .pointer (some ⟨w3.heap.size + 1, 0, none⟩), v7, v8, v9, v10, v11, v12, v13, v14, v15, v16, v17, v18, v19, v20, v21, v22, v23, v24, v25, v26, v27, v28, v29, v30, v31, v32, v33, v34, v35, v36, v37, v38, v39, v40, v41, v42, v43, v44, v45, v46, v47, v48, v49, v50, v51, v52, v53, v54, v55, v56, v57, v58, v59, v60, v61, v62, v63, v64, v65, v66, v67, v68, v69, v70, v71, v72, v73, v74, v75, v76, v77, v78, v79, v80, v81, v82, v83, v84, v85, v86, v87, v88, v89, v90, v91, v92, v93, v94, v95, v96, v97, v98, v99, v100, v101, v102, v103, v104, v105, v106, v107, v108, v109, v110, v111, v112, v113, v114, v115, v116, v117, v118, v119, v120, v121, v122, v123, v124, v125, v126, v127, v128, v129, v130, v131, v132, v133, v134, v135, v136, v137, v138, v139, v140, v141, v142, v143, v144, v145, v146, v147, v148, v149, v150, v151, v152, v153, v154, v155, v156, v157, v158, v159, v160, v161, v162, v163, v164, v165, v166, v167, v168, v169, v170, v171, v172, v173, v174, v175, v176, v177, v178, v179, v180, v181, v182, v183, v184, v185, v186, v187, v188, v189, v190, v191, v192, v193, v194, v195, v196, v197, v198, v199, v200, v201, v202, v203, v204, v205, v206, v207, v208, v209, v210, v211, v212, v213, v214, v215, v216, v217, v218, v219, v220, v221, v222, v223, v224, v225, v226, v227, v228, v229, v230, v231, v232, v233, v234, v235, v236, v237, v238, v239, v240, v241, v242, v243, v244, v245, v246, v247, v248, v249, v250, v251, v252, v253, v254, v255, v256, v257, v258, v259, v260, v261, v262, v263, v264, v265, v266, v267, v268, v269, v270, v271, v272, v273, v274], defers := [] } wr := by
  intros
  conv => arg 2; whnf
  have hbr : Below W1.heap.size W1 wr := HBR.out.trans (by have := hR2.below hTl2; rwa [← hsz1] at this)
  have hX := HX.out.below hbr
  have hCB := HCB.out.below hbr
  have hC := HC.out.below hbr
  have hB := HB.out.trans (hbr.mono HB.out.size)
  have hrw := rows_of_ownsG Wish.cells 2 (fun _ => rfl) (owns_keep (w' := wr) HR.out.own (fun g hg => hR2.keep g (HR.out.own.lt g hg).2 (by have := (HR.out.own.lt g hg).1; omega)))
  have hru := rows_of_ownsG pairCells 2 (fun _ => rfl) hR2.own
  have hz : ∀ k, k ≠ 3 → k ≠ 4 → wr.cell? ⟨w3.heap.size + 1, k, none⟩ = W0.cell? ⟨w3.heap.size + 1, k, none⟩ := fun k h3 h4 => (hR2.oth k h4).trans (HR.out.oth k h3)
  obtain ⟨t, ht⟩ : ∃ t : Task, t = ⟨c, L, P, x.d0, x.d1, x.d2, x.d3, x.d4, x.d5⟩ := ⟨_, rfl⟩
  have hTB : TaskBox wr (w3.heap.size + 1) cA cc pA pc A cp A2 c2 t := by
    have z := HT0.out
    rw [ht]
    exact ⟨Nat.lt_of_lt_of_le hTl2 hR2.size, (hz 0 (by omega) (by omega)).trans z.z0, (hz 1 (by omega) (by omega)).trans z.z1, (hz 2 (by omega) (by omega)).trans z.z2, (hR2.oth 3 (by omega)).trans HR.out.cell, hR2.cell, (hz 5 (by omega) (by omega)).trans z.z5, (hz 6 (by omega) (by omega)).trans z.z6, (hz 7 (by omega) (by omega)).trans z.z7, (hz 8 (by omega) (by omega)).trans z.z8, (hz 9 (by omega) (by omega)).trans z.z9, (hz 10 (by omega) (by omega)).trans z.z10⟩
  have hT : TaskRd wr cA cc pA pc A cp A2 c2 t := by
    rw [ht]
    exact ⟨hC, hrw.1, hrw.2.1, hrw.2.2, hru.1, hru.2.1, hru.2.2, ⟨hC.wf, HLW.out, hPw, hH.out.i0, hH.out.i1, hH.out.i2, hH.out.i3, hH.out.i4, hH.out.i5⟩⟩
  have hct : t.cloth = c := by rw [ht]
  have HN := HN46
  subst hct
  clear HC HCB HX HR hR2 HBR HB HB01 HT0 HF0 HLW hPw hbr hrw hru hz ht hH
  obtain ⟨hTlt, z0, z1, z2, z3, z4, z5, z6, z7, z8, z9, z10⟩ := id hTB
  go_wp2_with fail
  refine (dysolve_any hT).mono ?_
  rintro e w6 ⟨v6, rfl, hv6, hb6⟩
  have hB6 := hB.trans (hb6.mono hB.size)
  have hT6 := hT.below hb6
  have hTB6 := hTB.below hb6
  have hCB6 := hCB.below hb6
  clear hT hTB hCB hX hC hB hb6 hTlt z0 z1 z2 z3 z4 z5 z6 z7 z8 z9 z10
  obtain ⟨hTlt, z0, z1, z2, z3, z4, z5, z6, z7, z8, z9, z10⟩ := id hTB6
  by_cases he : (solveR t).2 = 0
  rotate_left
  · have hne : ((solveR t).2 != 0) = true := by simp [he]
    by_cases h4 : (solveR t).2 = 4
    · rw [h4]
      clear hne he h4
      go_wp2_with fail
      exact bodyPost_ret (by simp [results, Try.f3, go_sem]) rfl ⟨rfl, hB6⟩
    · have h4B : ((solveR t).2 == 4) = false := by simp [h4]
      have htb := Lib.hid (solve_no he h4)
      clear he h4
      generalize (solveR t).2 = g at *
      go_wp2_with fail
      refine (dycheck_any hT6).mono ?_
      rintro e w7 ⟨rfl, hb7⟩
      rw [htb.out]
      have hB7 := hB6.trans (hb7.mono hB6.size)
      go_wp2_with fail
      exact bodyPost_ret (by simp [results, Try.f3, go_sem]) rfl ⟨rfl, hB7⟩
  · obtain ⟨htb, hArr⟩ := solve_ok he
    have hok := taskB_ok htb
    have hcb := taskB_cloth htb
    rw [he]
    generalize (solveR t).1 = l at *
    obtain ⟨lA, lc, rfl, hl⟩ := hv6
    have hlen := hArr.len
    clear he htb
    have hlt : (l.length : Int) = t.cloth.threads := by have := hok.threads; omega
    have hll := hl.len
    have hlm := hl.cap
    unfold maxLen at hlm
    have HOK := Lib.hid hok
    have HARR := Lib.hid hArr
    have HCL := Lib.hid hcb
    have HLT := Lib.hid hlt
    clear hok hArr hcb hlen hlt
    obtain ⟨hClt, y0, y1, y2⟩ := id hCB6
    go_wp2_with fail
    refine (seen_any hT6.cloth HCL.out hl (fun z hz => by have := HARR.out.cols z hz; omega) HLT.out).mono ?_
    rintro e w7 ⟨gA, gc, rfl, hg, hb7⟩
    have hB7 := hB6.trans (hb7.mono hB6.size)
    have hT7 := hT6.below hb7
    have hTB7 := hTB6.below hb7
    have hCB7 := hCB6.below hb7
    have hl7 := hl.below hb7
    have hgl := seenL_len t.cloth l
    have hgle := hg.len
    have hgm := hg.cap
    unfold maxLen at hgm
    clear hT6 hTB6 hCB6 hl hb7 hB6 hTlt z0 z1 z2 z3 z4 z5 z6 z7 z8 z9 z10 hClt y0 y1 y2
    have hglB : (((seenL t.cloth l).length : Int) != (t.cloth.crosses.length : Int)) = false := by simp [hgl]
    have HGL := Lib.hid hgl
    clear hgl
    obtain ⟨hTlt, z0, z1, z2, z3, z4, z5, z6, z7, z8, z9, z10⟩ := id hTB7
    go_wp2_with fail
    go_loopw [14] (fun i wr => ∃ k : Nat, k ≤ t.wishes.length ∧ i = .int .i64 k ∧ w7 = wr) (fun i _ => t.wishes.length - (intOf i).toNat)
    case atStart => exact ⟨0, Nat.zero_le _, rfl, rfl⟩
    case round =>
      obtain ⟨k, hk, rfl, hwr⟩ := hrel
      subst hwr
      have hwlen := hT7.wlen
      have hwcap := hT7.wcap
      unfold maxLen at hwcap
      by_cases hkl : k < t.wishes.length
      · obtain ⟨q, v, hq, e1, e2, hv6, hbit, ha64⟩ := fit_wish HOK.out HARR.out hkl
        obtain ⟨b, off, rfl, hb, k0, k1⟩ := hT7.wishes.wish hkl
        obtain ⟨gb, go_, rfl, hgb, g0⟩ := hg.rows.int hq
        rw [e1] at k0
        rw [e2] at g0
        clear e1 e2
        generalize t.wishes[k].allowed = a at *
        have hb8 := u8_bit0 a v (by omega)
        rw [hbit] at hb8
        have hkli : (k : Int) < (t.wishes.length : Int) := by omega
        have hqi : (q : Int) < ((seenL t.cloth l).length : Int) := by omega
        have hd0 : decide ((v : Int) < 0) = false := decide_eq_false (by omega)
        have hd6 : decide ((6 : Int) ≤ (v : Int)) = false := decide_eq_false (by omega)
        have hd6n : decide (6 ≤ v) = false := decide_eq_false (by omega)
        clear hbit
        go_wp2_with fail
        go_roundw
        case rel => exact ⟨k + 1, by omega, by go_num, trivial⟩
        case measure => simp [intOf]; omega
      · have hkli : ¬ (k : Int) < (t.wishes.length : Int) := by omega
        clear hkl
        go_wp2_with fail
        clear z0 z1 z2 z3 z4 z5 z6 z7 z8 z9 z10 hTlt
        have hulen := hT7.ulen
        have hucap := hT7.ucap
        unfold maxLen at hucap
        obtain ⟨W7, hW7⟩ : ∃ W7 : World, W7 = w7 := ⟨_, rfl⟩
        have hT := hT7
        have hTB := hTB7
        have hg7 := hg
        have hCBW := hCB7
        have hlW := hl7
        have hBW := hB7
        rw [← hW7] at hT hTB hg7 hCBW hlW hBW
        go_loopw [16] (fun i wr => ∃ j : Nat, j ≤ t.unlike.length ∧ i = .int .i64 j ∧ Below W7.heap.size W7 wr) (fun i _ => t.unlike.length - (intOf i).toNat)
        case atStart => exact ⟨0, Nat.zero_le _, rfl, by rw [hW7]; exact Below.refl _ _⟩
        case round =>
          clear hW7
          obtain ⟨j, hj, rfl, hbW⟩ := hrel
          have hTr := hT.below hbW
          have hgr := hg7.below hbW
          obtain ⟨hTlt, z0, z1, z2, z3, z4, z5, z6, z7, z8, z9, z10⟩ := hTB.below hbW
          by_cases hjl : j < t.unlike.length
          · obtain ⟨p, q, hp, hq, e1, e2⟩ := fit_pair HOK.out HARR.out hjl
            obtain ⟨b, off, rfl, hb, k0, k1⟩ := hTr.unlike.pair hjl
            obtain ⟨gb, go_, rfl, hgb, g0⟩ := hgr.rows.int hp
            obtain ⟨gb2, go2, eg, -, g1⟩ := hgr.rows.int hq
            cases eg
            rw [e1] at k0 k1
            generalize (seenL t.cloth l)[p] = u at *
            generalize (seenL t.cloth l)[q] = v at *
            have huv : (u == v) = false := by simp [e2]
            have hjli : (j : Int) < (t.unlike.length : Int) := by omega
            have hpi : (p : Int) < ((seenL t.cloth l).length : Int) := by omega
            have hqi : (q : Int) < ((seenL t.cloth l).length : Int) := by omega
            clear e1
            have E2 := Lib.hid e2
            clear e2
            go_wp2_with fail
            go_region
            go_wp2_with fail
            go_roundw
            case rel => exact ⟨j + 1, by omega, by go_num, hbW.drew⟩
            case measure => simp [intOf]; omega
          · have hjli : ¬ (j : Int) < (t.unlike.length : Int) := by omega
            clear hjl
            have hCr := hCBW.below hbW
            have hlr := hlW.below hbW
            have hBr := hBW.trans (hbW.mono hBW.size)
            obtain ⟨hClt, y0, y1, y2⟩ := id hCr
            obtain ⟨n, hn, hn4⟩ : ∃ n : Nat, t.cloth.threads = (n : Nat) ∧ (n = 4 ∨ n = 6) := by
              rcases HN.out with e | e
              · exact ⟨4, e, .inl rfl⟩
              · exact ⟨6, e, .inr rfl⟩
            have HNN := Lib.hid hn
            have hln : l.length = n := by have := HLT.out; omega
            have HLN := Lib.hid hln
            clear hn hln
            go_wp2_with fail
            clear z0 z1 z2 z3 z4 z5 z6 z7 z8 z9 z10 hTlt
            refine (least_any hTr.cloth HCL.out HARR.out.cols hn4 HNN.out HLN.out hgr).mono ?_
            rintro e w8 ⟨mA, mc, rfl, hm, hb8⟩
            have hT8 := hTr.below hb8
            have hCB8 := hCr.below hb8
            have hl8 := hlr.below hb8
            have hB8 := hBr.trans (hb8.mono hBr.size)
            clear hb8 hClt y0 y1 y2
            obtain ⟨hClt, y0, y1, y2⟩ := id hCB8
            go_wp2_with fail
            refine (hidden_any hT8.cloth HCL.out hn4 HNN.out).mono ?_
            rintro e w9 ⟨dA, dc, rfl, hd, hb9⟩
            have hl9 := hl8.below hb9
            have hm9 := hm.below hb9
            have hB9 := hB8.trans (hb9.mono hB8.size)
            have hfl := finL_len t.cloth l n
            have hflB : (((finL t.cloth l n).length : Int) != (l.length : Int)) = false := by simp [hfl, HLN.out]
            have HFL := Lib.hid hfl
            have hmle := hm9.len
            have hmcap := hm9.cap
            unfold maxLen at hmcap
            clear hb9 hB8 hl8 hm hfl hClt y0 y1 y2
            go_wp2_with fail
            obtain ⟨W9, hW9⟩ : ∃ W9 : World, W9 = w9 := ⟨_, rfl⟩
            have hl := hl9
            have hm := hm9
            have hdd := hd
            have hBZ := hB9
            rw [← hW9] at hl hm hdd hBZ
            go_loopw [20] (fun i wr => ∃ m : Nat, m ≤ l.length ∧ i = .int .i64 m ∧ Below W9.heap.size W9 wr) (fun i _ => l.length - (intOf i).toNat)
            case atStart => exact ⟨0, Nat.zero_le _, rfl, by rw [hW9]; exact Below.refl _ _⟩
            case round =>
              clear hW9
              obtain ⟨m, hmj, rfl, hbZ⟩ := hrel
              have hlr := hl.below hbZ
              have hmr := hm.below hbZ
              have hdr := hdd.below hbZ
              have hBr := hBZ.trans (hbZ.mono hBZ.size)
              by_cases hml : m < l.length
              · have hmn : m < n := by have := HLN.out; omega
                have hmf : m < (finL t.cloth l n).length := by rw [HFL.out]; exact hmn
                have hhid := fin_hid (c := t.cloth) HARR.out.cols HLN.out hmn
                obtain ⟨lb, lo, rfl, hlb, l0⟩ := hlr.rows.int hml
                obtain ⟨mb, mo, rfl, hmb, m0⟩ := hmr.rows.int hmf
                generalize l[m] = a at *
                generalize (finL t.cloth l n)[m] = b at *
                have HH := Lib.hid hhid
                clear hhid
                have hmi : (m : Int) < (l.length : Int) := by omega
                have hmfi : (m : Int) < ((finL t.cloth l n).length : Int) := by omega
                by_cases hab : a = b
                · have habB : (a != b) = false := by simp [hab]
                  clear hab
                  go_wp2_with fail
                  refine wp_region_noPanic ?_
                  refine wp_region_held_drew (S := (fun w' => Below wr.heap.size wr w' ∧ (∀ b o, b < wr.heap.size → w'.cell? ⟨b, o, none⟩ = wr.cell? ⟨b, o, none⟩))) (by kernel_rfl) ?_ (fun hHeld => ?_)
                  · exact held_drew _
                  refine wpAnyH_take (i := 0) (oi := { dst := some 259, op := Op.move (Operand.tmp 12), type := 47, pos := "top22.go:79", after := #[], guard := none }) (v := ?_) rfl (by kernel_rfl) (by kernel_rfl) (by kernel_rfl) (fun _ _ _ h => h) (.inl ⟨by rfl, ?_⟩) (by assumption) ?_
                  rotate_left
                  · intro w hSw; (try dsimp only at hSw); go_simp; try (with_reducible rfl)
                  try simp only [Act.put, List.setIfInBounds_toArray, List.set_cons_zero, List.set_cons_succ]
                  refine wpAnyH_take (i := 1) (oi := { dst := some 260, op := Op.move (Operand.tmp 20), type := 3, pos := "top22.go:79", after := #[], guard := none }) (v := ?_) rfl (by kernel_rfl) (by kernel_rfl) (by kernel_rfl) (fun _ _ _ h => h) (.inl ⟨by rfl, ?_⟩) (by assumption) ?_
                  rotate_left
                  · intro w hSw; (try dsimp only at hSw); go_simp; try (with_reducible rfl)
                  try simp only [Act.put, List.setIfInBounds_toArray, List.set_cons_zero, List.set_cons_succ]
                  refine wpAnyH_take (i := 2) (oi := { dst := some 261, op := Op.indexAddr 47 (Operand.tmp 259) (Operand.tmp 260), type := 0, pos := "top22.go:79", after := #[{ on := 0, ground := Ground.data }, { on := 1, ground := Ground.data }], guard := none }) (v := ?_) rfl (by kernel_rfl) (by kernel_rfl) (by kernel_rfl) (fun _ _ _ h => h) (.inl ⟨by rfl, ?_⟩) (by assumption) ?_
                  rotate_left
                  · intro w hSw; (try dsimp only at hSw); go_simp; try (with_reducible rfl)
                  try simp only [Act.put, List.setIfInBounds_toArray, List.set_cons_zero, List.set_cons_succ]
                  refine wpAnyH_take (i := 3) (oi := { dst := some 262, op := Op.load 3 (Operand.tmp 261), type := 3, pos := "top22.go:79", after := #[{ on := 2, ground := Ground.data }], guard := none }) (v := ?_) rfl (by kernel_rfl) (by kernel_rfl) (by kernel_rfl) (fun _ _ _ h => h) (.inl ⟨by rfl, ?_⟩) (by assumption) ?_
                  rotate_left
                  · intro w hSw; (try dsimp only at hSw); go_simp; try (with_reducible rfl)
                  try simp only [Act.put, List.setIfInBounds_toArray, List.set_cons_zero, List.set_cons_succ]
                  refine wpAnyH_take (i := 4) (oi := { dst := some 263, op := Op.move (Operand.tmp 17), type := 47, pos := "top22.go:79", after := #[], guard := none }) (v := ?_) rfl (by kernel_rfl) (by kernel_rfl) (by kernel_rfl) (fun _ _ _ h => h) (.inl ⟨by rfl, ?_⟩) (by assumption) ?_
                  rotate_left
                  · intro w hSw; (try dsimp only at hSw); go_simp; try (with_reducible rfl)
                  try simp only [Act.put, List.setIfInBounds_toArray, List.set_cons_zero, List.set_cons_succ]
                  refine wpAnyH_take (i := 5) (oi := { dst := some 264, op := Op.move (Operand.tmp 20), type := 3, pos := "top22.go:79", after := #[], guard := none }) (v := ?_) rfl (by kernel_rfl) (by kernel_rfl) (by kernel_rfl) (fun _ _ _ h => h) (.inl ⟨by rfl, ?_⟩) (by assumption) ?_
                  rotate_left
                  · intro w hSw; (try dsimp only at hSw); go_simp; try (with_reducible rfl)
                  try simp only [Act.put, List.setIfInBounds_toArray, List.set_cons_zero, List.set_cons_succ]
                  refine wpAnyH_take (i := 6) (oi := { dst := some 265, op := Op.indexAddr 47 (Operand.tmp 263) (Operand.tmp 264), type := 0, pos := "top22.go:79", after := #[{ on := 4, ground := Ground.data }, { on := 5, ground := Ground.data }], guard := none }) (v := ?_) rfl (by kernel_rfl) (by kernel_rfl) (by kernel_rfl) (fun _ _ _ h => h) (.inl ⟨by rfl, ?_⟩) (by assumption) ?_
                  rotate_left
                  · intro w hSw; (try dsimp only at hSw); go_simp; try (with_reducible rfl)
                  try simp only [Act.put, List.setIfInBounds_toArray, List.set_cons_zero, List.set_cons_succ]
                  refine wpAnyH_take (i := 7) (oi := { dst := some 266, op := Op.load 3 (Operand.tmp 265), type := 3, pos := "top22.go:79", after := #[{ on := 6, ground := Ground.data }], guard := none }) (v := ?_) rfl (by kernel_rfl) (by kernel_rfl) (by kernel_rfl) (fun _ _ _ h => h) (.inl ⟨by rfl, ?_⟩) (by assumption) ?_
                  rotate_left
                  · intro w hSw; (try dsimp only at hSw); go_simp; try (with_reducible rfl)
                  try simp only [Act.put, List.setIfInBounds_toArray, List.set_cons_zero, List.set_cons_succ]
                  refine wpAnyH_take (i := 8) (oi := { dst := some 267, op := Op.binOp BinOp.neq 3 (Operand.tmp 262) (Operand.tmp 266) 3, type := 4, pos := "top22.go:79", after := #[{ on := 3, ground := Ground.data }, { on := 7, ground := Ground.data }], guard := none }) (v := ?_) rfl (by kernel_rfl) (by kernel_rfl) (by kernel_rfl) (fun _ _ _ h => h) (.inl ⟨by rfl, ?_⟩) (by assumption) ?_
                  rotate_left
                  · intro w hSw; (try dsimp only at hSw); go_simp; try (with_reducible rfl)
                  try simp only [Act.put, List.setIfInBounds_toArray, List.set_cons_zero, List.set_cons_succ]
                  refine wpAnyH_take (i := 9) (oi := { dst := some 268, op := Op.move (Operand.tmp 267), type := 4, pos := "top22.go:79", after := #[{ on := 8, ground := Ground.data }], guard := none }) (v := ?_) rfl (by kernel_rfl) (by kernel_rfl) (by kernel_rfl) (fun _ _ _ h => h) (.inl ⟨by rfl, ?_⟩) (by assumption) ?_
                  rotate_left
                  · intro w hSw; (try dsimp only at hSw); go_simp; try (with_reducible rfl)
                  try simp only [Act.put, List.setIfInBounds_toArray, List.set_cons_zero, List.set_cons_succ]
                  refine wpAnyH_take (i := 10) (oi := { dst := some 269, op := Op.move (Operand.tmp 20), type := 3, pos := "top22.go:79", after := #[{ on := 9, ground := Ground.guard }], guard := some (9, true) }) (v := undef) rfl (by kernel_rfl) (by kernel_rfl) (by kernel_rfl) (fun _ _ _ h => h) (.inr ⟨by rfl, rfl⟩) (by assumption) ?_
                  try simp only [Act.put, List.setIfInBounds_toArray, List.set_cons_zero, List.set_cons_succ]
                  refine wpAnyH_take (i := 11) (oi := { dst := some 270, op := Op.buildSlice 47 1 #[(0, Operand.tmp 269)], type := 47, pos := "top22.go:79", after := #[{ on := 10, ground := Ground.data }, { on := 9, ground := Ground.guard }], guard := some (9, true) }) (v := undef) rfl (by kernel_rfl) (by kernel_rfl) (by kernel_rfl) (fun _ _ _ h => h) (.inr ⟨by rfl, rfl⟩) (by assumption) ?_
                  try simp only [Act.put, List.setIfInBounds_toArray, List.set_cons_zero, List.set_cons_succ]
                  refine wpAnyH_take (i := 12) (oi := { dst := some 271, op := Op.move (Operand.tmp 18), type := 47, pos := "top22.go:79", after := #[{ on := 9, ground := Ground.guard }], guard := some (9, true) }) (v := undef) rfl (by kernel_rfl) (by kernel_rfl) (by kernel_rfl) (fun _ _ _ h => h) (.inr ⟨by rfl, rfl⟩) (by assumption) ?_
                  try simp only [Act.put, List.setIfInBounds_toArray, List.set_cons_zero, List.set_cons_succ]
                  refine wpAnyH_take (i := 13) (oi := { dst := some 272, op := Op.call { callee := Callee.value (Operand.func 12), args := #[Operand.tmp 270, Operand.tmp 271], argTypes := #[47, 47] }, type := 4, pos := "top22.go:79", after := #[{ on := 11, ground := Ground.data }, { on := 12, ground := Ground.data }, { on := 9, ground := Ground.chain }, { on := 9, ground := Ground.guard }], guard := some (9, true) }) (v := undef) rfl (by kernel_rfl) (by kernel_rfl) (by kernel_rfl) (fun _ _ _ h => h) (.inr ⟨by rfl, rfl⟩) (by assumption) ?_
                  try simp only [Act.put, List.setIfInBounds_toArray, List.set_cons_zero, List.set_cons_succ]
                  refine wpAnyH_take (i := 14) (oi := { dst := some 273, op := Op.unOp UnOp.not 4 (Operand.tmp 272), type := 4, pos := "top22.go:79", after := #[{ on := 13, ground := Ground.data }, { on := 9, ground := Ground.guard }], guard := some (9, true) }) (v := undef) rfl (by kernel_rfl) (by kernel_rfl) (by kernel_rfl) (fun _ _ _ h => h) (.inr ⟨by rfl, rfl⟩) (by assumption) ?_
                  try simp only [Act.put, List.setIfInBounds_toArray, List.set_cons_zero, List.set_cons_succ]
                  refine wpAnyH_take (i := 15) (oi := { dst := some 274, op := Op.pick (Operand.tmp 268) (Operand.tmp 273) (Operand.const (Value.bool false)), type := 4, pos := "top22.go:79", after := #[{ on := 9, ground := Ground.data }, { on := 14, ground := Ground.data }], guard := none }) (v := ?_) rfl (by kernel_rfl) (by kernel_rfl) (by kernel_rfl) (fun _ _ _ h => h) (.inl ⟨by rfl, ?_⟩) (by assumption) ?_
                  rotate_left
                  · intro w hSw; (try dsimp only at hSw); go_simp; try (with_reducible rfl)
                  try simp only [Act.put, List.setIfInBounds_toArray, List.set_cons_zero, List.set_cons_succ]
                  refine wpAnyH_done (by kernel_rfl) ?_ _
                  refine NoPanic.normal ?_
                  go_wp2_with fail
                  go_roundw
                  case rel => exact ⟨m + 1, by omega, by go_num, hbZ.drew⟩
                  case measure => simp [intOf]; omega
                · have habB : (a != b) = true := by simp [hab]
                  have hin := HH.out hab
                  clear hab
                  go_wp2_with fail
                  refine wp_region_noPanic ?_
                  refine wp_region_held_drew (S := (fun w' => Below wr.heap.size wr w' ∧ (∀ b o, b < wr.heap.size → w'.cell? ⟨b, o, none⟩ = wr.cell? ⟨b, o, none⟩))) (by kernel_rfl) ?_ (fun hHeld => ?_)
                  · exact held_drew _
                  refine wpAnyH_take (i := 0) (oi := { dst := some 259, op := Op.move (Operand.tmp 12), type := 47, pos := "top22.go:79", after := #[], guard := none }) (v := ?_) rfl (by kernel_rfl) (by kernel_rfl) (by kernel_rfl) (fun _ _ _ h => h) (.inl ⟨by rfl, ?_⟩) (by assumption) ?_
                  rotate_left
                  · intro w hSw; (try dsimp only at hSw); go_simp; try (with_reducible rfl)
                  try simp only [Act.put, List.setIfInBounds_toArray, List.set_cons_zero, List.set_cons_succ]
                  refine wpAnyH_take (i := 1) (oi := { dst := some 260, op := Op.move (Operand.tmp 20), type := 3, pos := "top22.go:79", after := #[], guard := none }) (v := ?_) rfl (by kernel_rfl) (by kernel_rfl) (by kernel_rfl) (fun _ _ _ h => h) (.inl ⟨by rfl, ?_⟩) (by assumption) ?_
                  rotate_left
                  · intro w hSw; (try dsimp only at hSw); go_simp; try (with_reducible rfl)
                  try simp only [Act.put, List.setIfInBounds_toArray, List.set_cons_zero, List.set_cons_succ]
                  refine wpAnyH_take (i := 2) (oi := { dst := some 261, op := Op.indexAddr 47 (Operand.tmp 259) (Operand.tmp 260), type := 0, pos := "top22.go:79", after := #[{ on := 0, ground := Ground.data }, { on := 1, ground := Ground.data }], guard := none }) (v := ?_) rfl (by kernel_rfl) (by kernel_rfl) (by kernel_rfl) (fun _ _ _ h => h) (.inl ⟨by rfl, ?_⟩) (by assumption) ?_
                  rotate_left
                  · intro w hSw; (try dsimp only at hSw); go_simp; try (with_reducible rfl)
                  try simp only [Act.put, List.setIfInBounds_toArray, List.set_cons_zero, List.set_cons_succ]
                  refine wpAnyH_take (i := 3) (oi := { dst := some 262, op := Op.load 3 (Operand.tmp 261), type := 3, pos := "top22.go:79", after := #[{ on := 2, ground := Ground.data }], guard := none }) (v := ?_) rfl (by kernel_rfl) (by kernel_rfl) (by kernel_rfl) (fun _ _ _ h => h) (.inl ⟨by rfl, ?_⟩) (by assumption) ?_
                  rotate_left
                  · intro w hSw; (try dsimp only at hSw); go_simp; try (with_reducible rfl)
                  try simp only [Act.put, List.setIfInBounds_toArray, List.set_cons_zero, List.set_cons_succ]
                  refine wpAnyH_take (i := 4) (oi := { dst := some 263, op := Op.move (Operand.tmp 17), type := 47, pos := "top22.go:79", after := #[], guard := none }) (v := ?_) rfl (by kernel_rfl) (by kernel_rfl) (by kernel_rfl) (fun _ _ _ h => h) (.inl ⟨by rfl, ?_⟩) (by assumption) ?_
                  rotate_left
                  · intro w hSw; (try dsimp only at hSw); go_simp; try (with_reducible rfl)
                  try simp only [Act.put, List.setIfInBounds_toArray, List.set_cons_zero, List.set_cons_succ]
                  refine wpAnyH_take (i := 5) (oi := { dst := some 264, op := Op.move (Operand.tmp 20), type := 3, pos := "top22.go:79", after := #[], guard := none }) (v := ?_) rfl (by kernel_rfl) (by kernel_rfl) (by kernel_rfl) (fun _ _ _ h => h) (.inl ⟨by rfl, ?_⟩) (by assumption) ?_
                  rotate_left
                  · intro w hSw; (try dsimp only at hSw); go_simp; try (with_reducible rfl)
                  try simp only [Act.put, List.setIfInBounds_toArray, List.set_cons_zero, List.set_cons_succ]
                  refine wpAnyH_take (i := 6) (oi := { dst := some 265, op := Op.indexAddr 47 (Operand.tmp 263) (Operand.tmp 264), type := 0, pos := "top22.go:79", after := #[{ on := 4, ground := Ground.data }, { on := 5, ground := Ground.data }], guard := none }) (v := ?_) rfl (by kernel_rfl) (by kernel_rfl) (by kernel_rfl) (fun _ _ _ h => h) (.inl ⟨by rfl, ?_⟩) (by assumption) ?_
                  rotate_left
                  · intro w hSw; (try dsimp only at hSw); go_simp; try (with_reducible rfl)
                  try simp only [Act.put, List.setIfInBounds_toArray, List.set_cons_zero, List.set_cons_succ]
                  refine wpAnyH_take (i := 7) (oi := { dst := some 266, op := Op.load 3 (Operand.tmp 265), type := 3, pos := "top22.go:79", after := #[{ on := 6, ground := Ground.data }], guard := none }) (v := ?_) rfl (by kernel_rfl) (by kernel_rfl) (by kernel_rfl) (fun _ _ _ h => h) (.inl ⟨by rfl, ?_⟩) (by assumption) ?_
                  rotate_left
                  · intro w hSw; (try dsimp only at hSw); go_simp; try (with_reducible rfl)
                  try simp only [Act.put, List.setIfInBounds_toArray, List.set_cons_zero, List.set_cons_succ]
                  refine wpAnyH_take (i := 8) (oi := { dst := some 267, op := Op.binOp BinOp.neq 3 (Operand.tmp 262) (Operand.tmp 266) 3, type := 4, pos := "top22.go:79", after := #[{ on := 3, ground := Ground.data }, { on := 7, ground := Ground.data }], guard := none }) (v := ?_) rfl (by kernel_rfl) (by kernel_rfl) (by kernel_rfl) (fun _ _ _ h => h) (.inl ⟨by rfl, ?_⟩) (by assumption) ?_
                  rotate_left
                  · intro w hSw; (try dsimp only at hSw); go_simp; try (with_reducible rfl)
                  try simp only [Act.put, List.setIfInBounds_toArray, List.set_cons_zero, List.set_cons_succ]
                  refine wpAnyH_take (i := 9) (oi := { dst := some 268, op := Op.move (Operand.tmp 267), type := 4, pos := "top22.go:79", after := #[{ on := 8, ground := Ground.data }], guard := none }) (v := ?_) rfl (by kernel_rfl) (by kernel_rfl) (by kernel_rfl) (fun _ _ _ h => h) (.inl ⟨by rfl, ?_⟩) (by assumption) ?_
                  rotate_left
                  · intro w hSw; (try dsimp only at hSw); go_simp; try (with_reducible rfl)
                  try simp only [Act.put, List.setIfInBounds_toArray, List.set_cons_zero, List.set_cons_succ]
                  refine wpAnyH_take (i := 10) (oi := { dst := some 269, op := Op.move (Operand.tmp 20), type := 3, pos := "top22.go:79", after := #[{ on := 9, ground := Ground.guard }], guard := some (9, true) }) (v := ?_) rfl (by kernel_rfl) (by kernel_rfl) (by kernel_rfl) (fun _ _ _ h => h) (.inl ⟨by rfl, ?_⟩) (by assumption) ?_
                  rotate_left
                  · intro w hSw; (try dsimp only at hSw); go_simp; try (with_reducible rfl)
                  try simp only [Act.put, List.setIfInBounds_toArray, List.set_cons_zero, List.set_cons_succ]
                  refine wpAnyH_take (i := 12) (oi := { dst := some 271, op := Op.move (Operand.tmp 18), type := 47, pos := "top22.go:79", after := #[{ on := 9, ground := Ground.guard }], guard := some (9, true) }) (v := ?_) rfl (by kernel_rfl) (by kernel_rfl) (by kernel_rfl) (fun _ _ _ h => h) (.inl ⟨by rfl, ?_⟩) (by assumption) ?_
                  rotate_left
                  · intro w hSw; (try dsimp only at hSw); go_simp; try (with_reducible rfl)
                  try simp only [Act.put, List.setIfInBounds_toArray, List.set_cons_zero, List.set_cons_succ]
                  refine wpAnyH_ready (rs := [11]) (by kernel_rfl) (by simp) ?_
                  refine AllReadyH.cons (o := { dst := some 270, op := Op.buildSlice 47 1 #[(0, Operand.tmp 269)], type := 47, pos := "top22.go:79", after := #[{ on := 10, ground := Ground.data }, { on := 9, ground := Ground.guard }], guard := some (9, true) }) rfl (fun K hK => ?_) AllReadyH.nil
                  go_simp
                  have hbA : Below wr.heap.size wr ((wr.alloc (.cells #[.int .i64 (m : Nat)] 3)).drew) := (below_box _).drew
                  have hqA : Below wr.heap.size wr ((wr.alloc (.cells #[.int .i64 (m : Nat)] 3)).drew) ∧ (∀ b o, b < wr.heap.size → ((wr.alloc (.cells #[.int .i64 (m : Nat)] 3)).drew).cell? ⟨b, o, none⟩ = wr.cell? ⟨b, o, none⟩) := ⟨hbA, (bcell hbA).1⟩
                  have hone := (lit_ints wr 3 [(m : Int)] (cs := #[.int .i64 (m : Nat)]) rfl (by simp) (by intro x hx; obtain rfl := List.mem_singleton.1 hx; unfold I64; omega)).below (Below.refl _ _).drew
                  have hdA := hdr.below hbA
                  clear hbA
                  generalize (wr.alloc (.cells #[.int .i64 (m : Nat)] 3)).drew = wa at *
                  refine hK.out _ _ (by assumption) (fun hHeld => ?_)
                  clear hK K
                  try simp only [Act.put, List.setIfInBounds_toArray, List.set_cons_zero, List.set_cons_succ]
                  refine wpAnyH_ready (rs := [13]) (by kernel_rfl) (by simp) ?_
                  refine AllReadyH.cons (o := { dst := some 272, op := Op.call { callee := Callee.value (Operand.func 12), args := #[Operand.tmp 270, Operand.tmp 271], argTypes := #[47, 47] }, type := 4, pos := "top22.go:79", after := #[{ on := 11, ground := Ground.data }, { on := 12, ground := Ground.data }, { on := 9, ground := Ground.chain }, { on := 9, ground := Ground.guard }], guard := some (9, true) }) rfl (fun K hK => ?_) AllReadyH.nil
                  go_simp
                  go_at_call 12
                  refine (among_any hone hdA hin).mono ?_
                  rintro e w10 ⟨rfl, hq⟩
                  have hq10 := held_step (wr := wr) hHeld hq
                  clear hHeld
                  refine hK.out _ _ (by assumption) (fun hHeld => ?_)
                  clear hK K
                  try simp only [Act.put, List.setIfInBounds_toArray, List.set_cons_zero, List.set_cons_succ]
                  refine wpAnyH_take (i := 14) (oi := { dst := some 273, op := Op.unOp UnOp.not 4 (Operand.tmp 272), type := 4, pos := "top22.go:79", after := #[{ on := 13, ground := Ground.data }, { on := 9, ground := Ground.guard }], guard := some (9, true) }) (v := ?_) rfl (by kernel_rfl) (by kernel_rfl) (by kernel_rfl) (fun _ _ _ h => h) (.inl ⟨by rfl, ?_⟩) (by assumption) ?_
                  rotate_left
                  · intro w hSw; (try dsimp only at hSw); go_simp; try (with_reducible rfl)
                  try simp only [Act.put, List.setIfInBounds_toArray, List.set_cons_zero, List.set_cons_succ]
                  refine wpAnyH_take (i := 15) (oi := { dst := some 274, op := Op.pick (Operand.tmp 268) (Operand.tmp 273) (Operand.const (Value.bool false)), type := 4, pos := "top22.go:79", after := #[{ on := 9, ground := Ground.data }, { on := 14, ground := Ground.data }], guard := none }) (v := ?_) rfl (by kernel_rfl) (by kernel_rfl) (by kernel_rfl) (fun _ _ _ h => h) (.inl ⟨by rfl, ?_⟩) (by assumption) ?_
                  rotate_left
                  · intro w hSw; (try dsimp only at hSw); go_simp; try (with_reducible rfl)
                  try simp only [Act.put, List.setIfInBounds_toArray, List.set_cons_zero, List.set_cons_succ]
                  refine wpAnyH_done (by kernel_rfl) ?_ _
                  refine NoPanic.normal ?_
                  go_wp2_with fail
                  go_roundw
                  case rel => exact ⟨m + 1, by omega, by go_num, hbZ.trans (hq10.1.mono hbZ.size)⟩
                  case measure => simp [intOf]; omega
              · have hmi : ¬ (m : Int) < (l.length : Int) := by omega
                clear hml
                go_wp2_with fail
                exact bodyPost_ret (by simp [results, Try.f3, go_sem]) rfl ⟨rfl, hBr⟩
end Go.Proofs.Ytegbbkmppphddaa
