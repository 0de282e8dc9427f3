/- The law DyeingLeast, for every task and list. -/
import Derived.Test.YtegbbkmppphddaaDoorLawsP
import Derived.Test.YtegbbkmppphddaaDoorLawMeets
set_option linter.unusedVariables false
set_option linter.unusedSimpArgs false
namespace Go.Proofs.YtegbbkmppphddaaDoor
open Go.RowKit

set_option maxRecDepth 100000 in
set_option maxHeartbeats 8000000 in
theorem law_least {w : World} {cA : Option Addr} {cc : Nat} {pA : Option Addr} {pc : Nat} {wA : Option Addr} {wc : Nat} {uA : Option Addr} {uc : Nat} {t : Task} (h : TaskRd w cA cc pA pc wA wc uA uc t)
    {lA : Option Addr} {lc : Nat} {l : List Int} (hl : IntsRd w lA lc l) (hT : TabW w) :
    Calls Tryd.prog 5 #[taskVal cA cc pA pc wA wc uA uc t, .slice lA l.length lc] w fun e w' => e = .returned (.bool true) ∧ Below w.heap.size w w' := by
  go_enter Tryd.func5, Tryd.ntmps5
  go_wp2_with fail
  have hbx := below_box (w := w) (.cells #[.int .i64 t.cloth.threads, .slice cA t.cloth.crosses.length cc, .slice pA t.cloth.pins.length pc, .slice wA t.wishes.length wc, .slice uA t.unlike.length uc, .int .i64 t.s0, .int .i64 t.s1, .int .i64 t.s2, .int .i64 t.s3, .int .i64 t.s4, .int .i64 t.s5] 30)
  have hBo := taskBox_box w cA cc pA pc wA wc uA uc t 30
  have h := h.below hbx
  have hl := hl.below hbx
  have hT := hT.below hbx
  refine (far_any h).mono ?_
  rintro e w1 ⟨⟨b, rfl⟩, hb1⟩
  have hBo := hBo.below hb1
  have h := h.below hb1
  have hl := hl.below hb1
  have hT := hT.below hb1
  have hB := hbx.trans (hb1.mono hbx.size)
  have hll := hl.len
  have hlm := hl.cap
  unfold maxLen at hlm
  clear hb1 hbx
  obtain ⟨hBlt, z0, z1, z2, z3, z4, z5, z6, z7, z8, z9, z10⟩ := id hBo
  cases b
  case true =>
    go_wp2_with fail
    refine (shown_any hT).mono ?_
    rintro e w9 ⟨rfl, hb9⟩
    have hB := hB.trans (hb9.mono hB.size)
    go_wp2_with fail
    exact bodyPost_ret (by simp [results, Tryd.f5, go_sem]) rfl ⟨rfl, hB⟩
  case false =>
    by_cases h100 : (100 : Int) < (l.length : Int)
    · go_wp2_with fail
      refine (shown_any hT).mono ?_
      rintro e w9 ⟨rfl, hb9⟩
      have hB := hB.trans (hb9.mono hB.size)
      go_wp2_with fail
      exact bodyPost_ret (by simp [results, Tryd.f5, go_sem]) rfl ⟨rfl, hB⟩
    · have hd100 : decide ((100 : Int) < (l.length : Int)) = false := by simp; omega
      go_wp2_with fail
      refine (reftask_any h).mono ?_
      rintro e wk ⟨rfl, hbc⟩
      have hBo := hBo.below hbc
      have h := h.below hbc
      have hl := hl.below hbc
      have hT := hT.below hbc
      have hB := hB.trans (hbc.mono hB.size)
      clear hbc z0 z1 z2 z3 z4 z5 z6 z7 z8 z9 z10 hBlt
      obtain ⟨hBlt, z0, z1, z2, z3, z4, z5, z6, z7, z8, z9, z10⟩ := id hBo
      by_cases h0 : taskB t = 0
      · simp only [h0]
        rcases least_ways h0 l with ⟨r, hs, hm, hx⟩ | ⟨hs, hx⟩
        · have HX : Hid (((meetsR t l).1 && decide ((meetsR t l).2 = 0)) = true → r.length = l.length ∧ ∀ k, k < r.length → (∀ j, j < k → r.getD j 0 = l.getD j 0) → r.getD k 0 ≠ l.getD k 0 → r.getD k 0 < l.getD k 0) := hx
          clear hx h0
          go_wp2_with fail
          refine (dysolve_any h).mono ?_
          rintro e w2 ⟨v, rfl, hv, hb2⟩
          rw [hs] at hv
          simp only [hs]
          obtain ⟨rA, rc, rfl, hr⟩ := hv
          have hBo := hBo.below hb2
          have h := h.below hb2
          have hl := hl.below hb2
          have hT := hT.below hb2
          have hB := hB.trans (hb2.mono hB.size)
          clear hb2 z0 z1 z2 z3 z4 z5 z6 z7 z8 z9 z10 hBlt
          obtain ⟨hBlt, z0, z1, z2, z3, z4, z5, z6, z7, z8, z9, z10⟩ := id hBo
          clear hs
          go_wp2_with fail
          refine (refmeets_any h hl).mono ?_
          rintro e w3 ⟨rfl, hb3⟩
          have hBo := hBo.below hb3
          have h := h.below hb3
          have hl := hl.below hb3
          have hT := hT.below hb3
          have hr := hr.below hb3
          have hB := hB.trans (hb3.mono hB.size)
          clear hb3 z0 z1 z2 z3 z4 z5 z6 z7 z8 z9 z10 hBlt
          obtain ⟨hBlt, z0, z1, z2, z3, z4, z5, z6, z7, z8, z9, z10⟩ := id hBo
          generalize (meetsR t l).1 = mb at *
          generalize (meetsR t l).2 = me at *
          cases mb
          case false =>
            go_wp2_with fail
            refine (refmeets_any h hr).mono ?_
            rintro e w4 ⟨rfl, hb4⟩
            simp only [hm]
            have hBo := hBo.below hb4
            have h := h.below hb4
            have hl := hl.below hb4
            have hT := hT.below hb4
            have hr := hr.below hb4
            have hB := hB.trans (hb4.mono hB.size)
            clear hb4 z0 z1 z2 z3 z4 z5 z6 z7 z8 z9 z10 hBlt
            obtain ⟨hBlt, z0, z1, z2, z3, z4, z5, z6, z7, z8, z9, z10⟩ := id hBo
            clear hm
            go_wp2_with fail
            refine wp_loop_rounds 1 ?_
            rw [rounds_succ]
            by_cases hr0 : (0 : Int) < (r.length : Int)
            · go_wp2_with fail
              refine (shown_any hT).mono ?_
              rintro e w9 ⟨rfl, hb9⟩
              have hB := hB.trans (hb9.mono hB.size)
              go_wp2_with fail
              exact bodyPost_ret (by simp [results, Tryd.f5, go_sem]) rfl ⟨rfl, hB⟩
            · go_wp2_with fail
              refine (shown_any hT).mono ?_
              rintro e w9 ⟨rfl, hb9⟩
              have hB := hB.trans (hb9.mono hB.size)
              go_wp2_with fail
              exact bodyPost_ret (by simp [results, Tryd.f5, go_sem]) rfl ⟨rfl, hB⟩
          case true =>
            by_cases hme : me = 0
            · have HGET := Lib.hid (HX.out (by simp [hme]))
              have hme2 : (me == 0) = true := by simp [hme]
              clear HX hme
              go_wp2_with fail
              refine (refmeets_any h hr).mono ?_
              rintro e w4 ⟨rfl, hb4⟩
              simp only [hm]
              have hBo := hBo.below hb4
              have h := h.below hb4
              have hl := hl.below hb4
              have hT := hT.below hb4
              have hr := hr.below hb4
              have hB := hB.trans (hb4.mono hB.size)
              clear hb4 z0 z1 z2 z3 z4 z5 z6 z7 z8 z9 z10 hBlt
              obtain ⟨hBlt, z0, z1, z2, z3, z4, z5, z6, z7, z8, z9, z10⟩ := id hBo
              clear hm
              go_wp2_with fail
              have HLEX := Lib.hid HGET.out.2
              have hlen : r.length ≤ l.length := Nat.le_of_eq HGET.out.1
              clear HGET
              have hrl := hr.len
              have hrm := hr.cap
              unfold maxLen at hrm
              obtain ⟨W, hW⟩ : ∃ W : World, W = w4 := ⟨_, rfl⟩
              have hB : Below w.heap.size w W := by rw [hW]; exact hB
              have hr : IntsRd W rA rc r := by rw [hW]; exact hr
              have hl : IntsRd W lA lc l := by rw [hW]; exact hl
              have hT : TabW W := by rw [hW]; exact hT
              clear hBo h z0 z1 z2 z3 z4 z5 z6 z7 z8 z9 z10 hBlt
              go_loopw [11] (fun i wr => ∃ k : Nat, k ≤ r.length ∧ i = .int .i64 k ∧ Below W.heap.size W wr ∧ ∀ j, j < k → r.getD j 0 = l.getD j 0) (fun i _ => r.length - (intOf i).toNat)
              case atStart => exact ⟨0, Nat.zero_le _, rfl, by rw [hW]; exact Below.refl _ _, fun j hj => absurd hj (Nat.not_lt_zero _)⟩
              case round =>
                clear hW
                obtain ⟨k, hk, rfl, hbW, hall⟩ := hrel
                have hr := hr.below hbW
                have hl := hl.below hbW
                have hT := hT.below hbW
                have hB := hB.trans (hbW.mono hB.size)
                have HALL := Lib.hid hall
                clear hall
                by_cases hkr : k < r.length
                · have hkl : k < l.length := by omega
                  obtain ⟨rb, ro, rfl, hrb, hrc⟩ := hr.rows.int hkr
                  obtain ⟨lb, lo, rfl, hlb, hlc⟩ := hl.rows.int hkl
                  have hki : (k : Int) < (r.length : Int) := by omega
                  have hrg : r.getD k 0 = r[k] := by simp [hkr]
                  have hlg : l.getD k 0 = l[k] := by simp [hkl]
                  have hkl2 : (k : Int) < (l.length : Int) := by omega
                  have HR := Lib.hid hrg
                  have HL := Lib.hid hlg
                  clear hrg hlg
                  generalize r[k] = x at *
                  generalize l[k] = y at *
                  go_wp2_with fail
                  by_cases hxy : x = y
                  · have HXY := Lib.hid hxy
                    have hxy2 : (x == y) = true := by simp [hxy]
                    clear hxy
                    go_region
                    go_wp2_with fail
                    go_roundw
                    case rel => exact ⟨k + 1, by omega, by go_num, hbW.drew, fun j hj => by
                      rcases Nat.lt_succ_iff_lt_or_eq.1 hj with h1 | h1
                      · exact HALL.out j h1
                      · rw [h1, HR.out, HL.out, HXY.out]⟩
                    case measure => simp [intOf]; omega
                  · have hlt : x < y := by
                      have := HLEX.out k hkr HALL.out (by rw [HR.out, HL.out]; exact hxy)
                      rwa [HR.out, HL.out] at this
                    have hxy2 : (x == y) = false := by simp [hxy]
                    have HSH := Lib.hid (fun w' (hb : Below wr.drew.heap.size wr.drew w') => shown_any ((hT.below (Below.refl _ wr).drew).below hb))
                    have hrc' : wr.drew.cell? ⟨rb, ro + k, none⟩ = some (.int .i64 x) := hrc
                    have hlc' : wr.drew.cell? ⟨lb, lo + k, none⟩ = some (.int .i64 y) := hlc
                    have hB' : Below w.heap.size w wr.drew := hB.drew
                    clear hxy
                    go_region
                    go_wp2_with fail
                    have hrb' : rb < wr.drew.heap.size := hrb
                    have hlb' : lb < wr.drew.heap.size := hlb
                    clear hrc hlc hrb hlb hxy2
                    generalize wr.drew = wd at *
                    have hxy3 : decide (x < y) = true := by simp [hlt]
                    go_region_held3 (fun w' => Below wd.heap.size wd w' ∧ (∀ b o, b < wd.heap.size → w'.cell? ⟨b, o, none⟩ = wd.cell? ⟨b, o, none⟩)) (first | exact held_drew _ | assumption)
                      (first
                        | (go_at_call 10; refine (HSH.out _ ?_).mono ?_; (first | exact (held_drew _).1 | exact And.left (by assumption)); rintro e w4 ⟨rfl, hq⟩; have hq3 := held_step (wr := wd) (by first | exact held_drew _ | assumption) hq; clear hq))
                    go_wp2_with fail
                    exact bodyPost_ret (by simp [results, Tryd.f5, go_sem]) rfl ⟨rfl, hB'.trans (hq3.1.mono hB'.size)⟩
                · obtain rfl : k = r.length := by omega
                  have hki : ¬ ((r.length : Int) < (r.length : Int)) := by omega
                  go_wp2_with fail
                  refine (shown_any hT).mono ?_
                  rintro e w9 ⟨rfl, hb9⟩
                  have hB := hB.trans (hb9.mono hB.size)
                  go_wp2_with fail
                  exact bodyPost_ret (by simp [results, Tryd.f5, go_sem]) rfl ⟨rfl, hB⟩
            · have hme2 : (me == 0) = false := by simpa using hme
              clear HX hme
              go_wp2_with fail
              refine (refmeets_any h hr).mono ?_
              rintro e w4 ⟨rfl, hb4⟩
              simp only [hm]
              have hBo := hBo.below hb4
              have h := h.below hb4
              have hl := hl.below hb4
              have hT := hT.below hb4
              have hr := hr.below hb4
              have hB := hB.trans (hb4.mono hB.size)
              clear hb4 z0 z1 z2 z3 z4 z5 z6 z7 z8 z9 z10 hBlt
              obtain ⟨hBlt, z0, z1, z2, z3, z4, z5, z6, z7, z8, z9, z10⟩ := id hBo
              clear hm
              go_wp2_with fail
              refine wp_loop_rounds 1 ?_
              rw [rounds_succ]
              by_cases hr0 : (0 : Int) < (r.length : Int)
              · go_wp2_with fail
                refine (shown_any hT).mono ?_
                rintro e w9 ⟨rfl, hb9⟩
                have hB := hB.trans (hb9.mono hB.size)
                go_wp2_with fail
                exact bodyPost_ret (by simp [results, Tryd.f5, go_sem]) rfl ⟨rfl, hB⟩
              · go_wp2_with fail
                refine (shown_any hT).mono ?_
                rintro e w9 ⟨rfl, hb9⟩
                have hB := hB.trans (hb9.mono hB.size)
                go_wp2_with fail
                exact bodyPost_ret (by simp [results, Tryd.f5, go_sem]) rfl ⟨rfl, hB⟩
        · have hx : ((meetsR t l).1 && decide ((meetsR t l).2 = 0)) = false := hx
          clear h0
          go_wp2_with fail
          refine (dysolve_any h).mono ?_
          rintro e w2 ⟨v, rfl, -, hb2⟩
          simp only [hs]
          have hBo := hBo.below hb2
          have h := h.below hb2
          have hl := hl.below hb2
          have hT := hT.below hb2
          have hB := hB.trans (hb2.mono hB.size)
          clear hb2 z0 z1 z2 z3 z4 z5 z6 z7 z8 z9 z10 hBlt
          obtain ⟨hBlt, z0, z1, z2, z3, z4, z5, z6, z7, z8, z9, z10⟩ := id hBo
          clear hs
          go_wp2_with fail
          refine (refmeets_any h hl).mono ?_
          rintro e w3 ⟨rfl, hb3⟩
          have hBo := hBo.below hb3
          have h := h.below hb3
          have hl := hl.below hb3
          have hT := hT.below hb3
          have hB := hB.trans (hb3.mono hB.size)
          clear hb3 z0 z1 z2 z3 z4 z5 z6 z7 z8 z9 z10 hBlt
          obtain ⟨hBlt, z0, z1, z2, z3, z4, z5, z6, z7, z8, z9, z10⟩ := id hBo
          generalize (meetsR t l).1 = mb at *
          generalize (meetsR t l).2 = me at *
          cases mb
          case false =>
            go_wp2_with fail
            refine (shown_any hT).mono ?_
            rintro e w9 ⟨rfl, hb9⟩
            have hB := hB.trans (hb9.mono hB.size)
            go_wp2_with fail
            exact bodyPost_ret (by simp [results, Tryd.f5, go_sem]) rfl ⟨rfl, hB⟩
          case true =>
            have hme : (me == 0) = false := by simpa using hx
            clear hx
            go_wp2_with fail
            refine (shown_any hT).mono ?_
            rintro e w9 ⟨rfl, hb9⟩
            have hB := hB.trans (hb9.mono hB.size)
            go_wp2_with fail
            exact bodyPost_ret (by simp [results, Tryd.f5, go_sem]) rfl ⟨rfl, hB⟩
      · have hd0 : (taskB t != 0) = true := by simpa using h0
        generalize taskB t = tb at *
        clear h0
        go_wp2_with fail
        refine (shown_any hT).mono ?_
        rintro e w9 ⟨rfl, hb9⟩
        have hB := hB.trans (hb9.mono hB.size)
        go_wp2_with fail
        exact bodyPost_ret (by simp [results, Tryd.f5, go_sem]) rfl ⟨rfl, hB⟩
end Go.Proofs.YtegbbkmppphddaaDoor
