/- The program's Meets, whole. -/
import Derived.Test.YtegbbkmppphddaaDoorMeets
set_option linter.unusedVariables false
set_option linter.unusedSimpArgs false
namespace Go.Proofs.YtegbbkmppphddaaDoor
open Go.RowKit

theorem IntsRd.cellAt {w : World} {b off cap : Nat} {l : List Int} (h : IntsRd w (some ⟨b, off, none⟩) cap l) {k : Nat} (hk : k < l.length) : b < w.heap.size ∧ w.cell? ⟨b, off + k, none⟩ = some (.int .i64 l[k]) := by
  obtain ⟨b', off', hA, hlt, hc⟩ := h.rows.int hk
  simp only [Option.some.injEq, Addr.mk.injEq, and_true] at hA
  obtain ⟨rfl, rfl⟩ := hA
  exact ⟨hlt, hc⟩
def MeetsPost (w : World) (r : Bool × Int) (e : Ending) (w' : World) : Prop := e = .returned (.tuple #[.bool r.1, .int .i64 r.2]) ∧ Below w.heap.size w w'

set_option maxRecDepth 100000 in
set_option maxHeartbeats 4000000 in
theorem dymeets_any {w : World} {cA : Option Addr} {cc : Nat} {pA : Option Addr} {pc : Nat} {wA : Option Addr} {wc : Nat} {uA : Option Addr} {uc : Nat} {t : Task} (h : TaskRd w cA cc pA pc wA wc uA uc t)
    {lA : Option Addr} {lc : Nat} {l : List Int} (hl : IntsRd w lA lc l) :
    Calls Tryd.prog 19 #[taskVal cA cc pA pc wA wc uA uc t, .slice lA l.length lc] w (MeetsPost w (meetsR t l)) := by
  have hT1 := h.below (below_box (.cells #[.int .i64 t.cloth.threads, .slice cA t.cloth.crosses.length cc, .slice pA t.cloth.pins.length pc, .slice wA t.wishes.length wc, .slice uA t.unlike.length uc,
      .int .i64 t.s0, .int .i64 t.s1, .int .i64 t.s2, .int .i64 t.s3, .int .i64 t.s4, .int .i64 t.s5] 30))
  have hL1 := hl.below (below_box (.cells #[.int .i64 t.cloth.threads, .slice cA t.cloth.crosses.length cc, .slice pA t.cloth.pins.length pc, .slice wA t.wishes.length wc, .slice uA t.unlike.length uc,
      .int .i64 t.s0, .int .i64 t.s1, .int .i64 t.s2, .int .i64 t.s3, .int .i64 t.s4, .int .i64 t.s5] 30))
  have hll := hl.len
  have hlm := hl.cap
  unfold maxLen at hlm
  by_cases h0 : taskB t = 0
  · have hk := taskB_ok h0
    have hth := hk.threads
    have hR : meetsR t l = if colsB t l then (possibleB t l, 0) else (false, 2) := by
      unfold meetsR; rw [if_neg (by simp [h0])]
    by_cases hn : (l.length : Int) = t.cloth.threads
    · have hcb := colsB_any hn
      have hne : ((l.length : Int) != t.cloth.threads) = false := by simp [hn]
      have HN := Lib.hid hn
      have HR := Lib.hid hR
      have H0 := Lib.hid h0
      have HCB := Lib.hid hcb
      clear h0 hR hn hcb
      cases hbd : l.any badC with
      | true =>
        have HBD := Lib.hid hbd
        clear hbd
        go_enter Tryd.func19, Tryd.ntmps19
        go_wp2_with fail
        refine (dycheck_any hT1).mono ?_
        rintro e w1 ⟨rfl, hb1⟩
        rw [H0.out]
        simp only [World.size_alloc] at hb1
        obtain ⟨hcell, _⟩ := bcell hb1
        have hL2 := hL1.below' (by simp) hb1
        go_wp2_with fail
        refine (contains_bad hL2).mono ?_
        rintro e w2 ⟨rfl, rfl⟩
        rw [HBD.out]
        go_wp2_with fail
        go_ret2
        exact ⟨by rw [HR.out, HCB.out, HBD.out]; rfl, (below_box _).trans (hb1.mono (by omega))⟩
      | false =>
        have HBD := Lib.hid hbd
        clear hbd
        go_enter Tryd.func19, Tryd.ntmps19
        go_wp2_with fail
        refine (dycheck_any hT1).mono ?_
        rintro e w1 ⟨rfl, hb1⟩
        rw [H0.out]
        simp only [World.size_alloc] at hb1
        obtain ⟨hcell, _⟩ := bcell hb1
        have hL2 := hL1.below' (by simp) hb1
        have hT2 := hT1.below' (by simp) hb1
        go_wp2_with fail
        refine (contains_bad hL2).mono ?_
        rintro e w2 ⟨rfl, rfl⟩
        rw [HBD.out]
        go_wp2_with fail
        have eg := enters_of (P := Tryd.prog) Tryd.func37 (by kernel_rfl) rfl
        refine (made_any hT2 hk 37 #[] (fun _ => true) eg (fun w' i _ _ => meets2_any i)).mono ?_
        rintro e w3 ⟨b, hlt, rfl, hP, hb3⟩
        have hM := made_matches hk (fun _ => true)
        rw [pickT_all] at hM
        have hpw := made_wf hk (fun _ => true)
        have hleft : (madeP t (fun _ => true)).left = leftN t l 0 := by rw [leftN_zero]; rfl
        have hcols : Hid (colsB t l = true) := by rw [HCB.out, HBD.out]; rfl
        have hBw : Below w.heap.size w w1 := (below_box _).trans (hb1.mono (by omega))
        have hs1 : w.heap.size < w1.heap.size := by have := hb1.size; simp at this; omega
        generalize hpp : madeP t (fun _ => true) = p at *
        have hP : ProbAt w3 b { p with left := leftN t l 0 } := by rw [← hleft]; exact hP
        have HM := Lib.hid hM
        have HPW := Lib.hid hpw
        have HK := Lib.hid hk
        clear hpp hleft hM hpw hcell hT1 hL1 hT2 hl h hb1 hk
        go_wp2
        go_loopw [30] (fun i wr => ∃ n : Nat, n ≤ l.length ∧ i = .int .i64 n ∧ Below w1.heap.size w1 wr ∧ ProbAt wr b { p with left := leftN t l n } ∧ Asked p t l n) (fun i _ => l.length - (intOf i).toNat)
        case atStart => exact ⟨0, by omega, rfl, hb3, hP, asked_zero HK.out l⟩
        case round =>
          clear hP hb3
          obtain ⟨n, hnl, rfl, hbl, hP, hA⟩ := hrel
          obtain ⟨hlen, hcl⟩ := colsB_yes HK.out hcols.out
          have HLEN := Lib.hid hlen
          have HA := Lib.hid hA
          have HCL := Lib.hid hcl
          clear hlen hA hcl
          by_cases hlt' : n < l.length
          · have hLr := hL2.below hbl
            obtain ⟨lb, lo, rfl, hlb, hc0⟩ := hLr.rows.int hlt'
            have hcb := HCL.out _ (List.getElem_mem hlt')
            obtain ⟨c, hc⟩ := Int.eq_ofNat_of_zero_le hcb.1
            have hc6 : c < 6 := by omega
            rw [hc] at hc0
            have hn16 : n < 16 := by have := HLEN.out; omega
            have hni : (n : Int) < 16 := by omega
            have hci : (c : Int) < 6 := by omega
            have hx0 : 0 ≤ (leftN t l n).getD c 0 := by rw [leftN_get t l n hc6]; have := HA.out.left c hc6; omega
            have hx1 : (leftN t l n).getD c 0 ≤ 100 := by rw [leftN_get t l n hc6]; have := (HK.out.supply c hc6).2; rw [← List.getD_eq_getElem?_getD] at this; omega
            have m1 := hP.left hc6
            have f1 := hP.frozen (32 + c)
            have hbz := hP.lt
            simp only at m1
            generalize hxx : (leftN t l n).getD c 0 = x at *
            have hP4 := hP.setLeft hc6 (x - 1)
            have hls := leftN_succ t l hlt' hc6 hc
            rw [hxx] at hls
            simp only [hls] at hP4
            have hP4 := hP4.of_block (w' := (wr.setCell ⟨b, 32 + c, none⟩ (.int .i64 (x - 1))).drew) rfl
            have hB4 := (hbl.setCell (p := ⟨b, 32 + c, none⟩) (by simpa using hlt) (.int .i64 (x - 1))).drew
            have HC := Lib.hid hc
            have HX := Lib.hid hxx
            have HP4 := Lib.hid hP4
            have HB4 := Lib.hid hB4
            clear hcb hc hxx hls hP hP4 hB4 hLr hbl
            go_wp2
            go_region
            clear m1 f1 hc0
            generalize (wr.setCell ⟨b, 32 + c, none⟩ (.int .i64 (x - 1))).drew = w4 at *
            have hv64 := HPW.out.mayB n
            have hP4 := HP4.out
            have m2 := hP4.may hn16
            have m3 := hP4.left hc6
            have m4 := hP4.unl hn16
            have m5 := HPW.out.unlB n
            have hb4 := hP4.lt
            simp only at m2 m3 m4
            generalize hvv : p.may.getD n 0 = v at m2 hv64
            generalize hyy : (leftN t l (n + 1)).getD c 0 = y at m3
            generalize huu : p.unl.getD n 0 = u at m4 m5
            have hb8 := u8_bit0 v c (by omega)
            have HV := Lib.hid hvv
            have HY := Lib.hid hyy
            have HU := Lib.hid huu
            clear hP4 hvv hyy huu
            have hL4 := hL2.below HB4.out
            have hBf := hBw.trans (HB4.out.mono (by omega))
            cases hbit : v.testBit c with
            | false =>
              rw [hbit] at hb8
              have hno : Hid (possibleB t l = false) := meets_no_may HK.out HM.out HLEN.out HCL.out hlt' hc6 HC.out (by rw [HV.out]; exact hbit)
              clear hbit
              go_wp2
              go_ret2
              exact ⟨by rw [HR.out, if_pos hcols.out, hno.out]; rfl, hBf⟩
            | true =>
              rw [hbit] at hb8
              have HBIT := Lib.hid hbit
              clear hbit
              by_cases hy : y < 0
              · have hno : Hid (possibleB t l = false) := meets_no_left HK.out HCL.out hc6 (n := n + 1) (by rw [HY.out]; exact hy)
                go_wp2
                go_ret2
                exact ⟨by rw [HR.out, if_pos hcols.out, hno.out]; rfl, hBf⟩
              · go_wp2
                go_loop [65] (fun i => ∃ k : Nat, k ≤ n ∧ i = .int .i64 k ∧ ∀ k', k' < k → u.testBit k' = true → l.getD k' 0 ≠ (c : Int)) (fun i => n - (intOf i).toNat)
                case atStart => exact ⟨0, by omega, rfl, fun k' hk' => by omega⟩
                case round =>
                  obtain ⟨k, hkn, rfl, hall⟩ := hrel
                  have HALL := Lib.hid hall
                  clear hall
                  by_cases hkl : k < n
                  · have hkl2 : k < l.length := by omega
                    obtain ⟨hlb4, hck⟩ := hL4.cellAt hkl2
                    have hb1 := u64_bit1 u k (by omega)
                    cases hub : u.testBit k with
                    | false =>
                      rw [hub] at hb1
                      have HUB := Lib.hid hub
                      clear hub
                      go_wp2
                      go_round
                      case rel => exact ⟨k + 1, by omega, by go_num, fun k' hk' hb => by
                        by_cases e : k' = k
                        · subst e; rw [HUB.out] at hb; cases hb
                        · exact HALL.out k' (by omega) hb⟩
                      case measure => simp [intOf]; omega
                    | true =>
                      rw [hub] at hb1
                      have HUB := Lib.hid hub
                      clear hub
                      by_cases hec : l[k] = (c : Int)
                      · have heb : (l[k] == (c : Int)) = true := by simp [hec]
                        have hno : Hid (possibleB t l = false) := meets_no_unl HK.out HM.out HLEN.out HCL.out hlt' hkl (by rw [HU.out]; exact HUB.out) (by
                          have hce := HC.out
                          simp [hkl2, hlt', hec, hce])
                        clear hec
                        go_wp2
                        go_ret2
                        exact ⟨by rw [HR.out, if_pos hcols.out, hno.out]; rfl, hBf⟩
                      · have heb : (l[k] == (c : Int)) = false := by simp [hec]
                        have HEC := Lib.hid hec
                        clear hec
                        go_wp2
                        go_round
                        case rel => exact ⟨k + 1, by omega, by go_num, fun k' hk' hb => by
                          by_cases e : k' = k
                          · subst e; simpa [hkl2] using HEC.out
                          · exact HALL.out k' (by omega) hb⟩
                        case measure => simp [intOf]; omega
                  · obtain rfl : k = n := by omega
                    have hA5 : Hid (Asked p t l (k + 1)) := asked_succ HA.out hlt' hc6 HC.out (by rw [HV.out]; exact HBIT.out) (by rw [HY.out]; omega) (by rw [HU.out]; exact HALL.out)
                    go_wp2
                    go_roundw
                    case rel => exact ⟨k + 1, by omega, by go_num, HB4.out, HP4.out, hA5.out⟩
                    case measure => simp [intOf]; omega
          · obtain rfl : n = l.length := by omega
            have m5 := hP.never
            have hbz := hP.lt
            have hdone : Hid (possibleB t l = !p.never) := meets_done HK.out HM.out HLEN.out HCL.out HA.out
            simp only at m5
            go_wp2
            go_ret2
            exact ⟨by rw [HR.out, if_pos hcols.out, hdone.out]; rfl, hBw.trans (hbl.mono (by omega))⟩
    · have hne : ((l.length : Int) != t.cloth.threads) = true := by simp [hn]
      have hcb := Lib.hid (show colsB t l = false by unfold colsB; simp [hn])
      have HR := Lib.hid hR
      have H0 := Lib.hid h0
      clear h0 hR hn
      go_enter Tryd.func19, Tryd.ntmps19
      go_wp2_with fail
      refine (dycheck_any hT1).mono ?_
      rintro e w1 ⟨rfl, hb1⟩
      rw [H0.out]
      simp only [World.size_alloc] at hb1
      obtain ⟨hcell, _⟩ := bcell hb1
      go_wp2_with fail
      go_ret2
      exact ⟨by rw [HR.out, hcb.out]; rfl, (below_box _).trans (hb1.mono (by omega))⟩
  · have HR := Lib.hid (show meetsR t l = (false, taskB t) by unfold meetsR; rw [if_pos h0])
    have hne : (taskB t != 0) = true := by simp [h0]
    clear h0
    go_enter Tryd.func19, Tryd.ntmps19
    go_wp2_with fail
    refine (dycheck_any hT1).mono ?_
    rintro e w1 ⟨rfl, hb1⟩
    simp only [World.size_alloc] at hb1
    go_wp2_with fail
    go_ret2
    exact ⟨by rw [HR.out]; rfl, (below_box _).trans (hb1.mono (by omega))⟩
end Go.Proofs.YtegbbkmppphddaaDoor
