/- The law DyeingMore, for every task, colour, number of threads and crossing. -/
import Derived.Test.YtegbbkmppphddaaDoorLawsP
import Derived.Test.YtegbbkmppphddaaDoorLawMeets
import Derived.Test.YtegbbkmppphddaaDoorWishApp2
set_option linter.unusedVariables false
set_option linter.unusedSimpArgs false
namespace Go.Proofs.YtegbbkmppphddaaDoor
open Go.RowKit

theorem TaskBox.supply {w : World} {B : Nat} {cA : Option Addr} {cc : Nat} {pA : Option Addr} {pc : Nat} {wA : Option Addr} {wc : Nat} {uA : Option Addr} {uc : Nat} {t : Task} (h : TaskBox w B cA cc pA pc wA wc uA uc t) {k : Nat} (hk : k < 6) : w.cell? ⟨B, 5 + k, none⟩ = some (.int .i64 (t.supply[k]?.getD 0)) := by
  have hk' : k = 0 ∨ k = 1 ∨ k = 2 ∨ k = 3 ∨ k = 4 ∨ k = 5 := by omega
  rcases hk' with rfl | rfl | rfl | rfl | rfl | rfl
  · exact h.z5
  · exact h.z6
  · exact h.z7
  · exact h.z8
  · exact h.z9
  · exact h.z10

theorem TaskBox.more {w : World} {B : Nat} {cA : Option Addr} {cc : Nat} {pA : Option Addr} {pc : Nat} {wA : Option Addr} {wc : Nat} {uA : Option Addr} {uc : Nat} {t : Task} (h : TaskBox w B cA cc pA pc wA wc uA uc t) {k : Nat} (hk : k < 6) (n : Int) :
    TaskBox (w.setCell ⟨B, 5 + k, none⟩ (.int .i64 n)) B cA cc pA pc wA wc uA uc (moreT t k n) := by
  have ho : ∀ o, o ≠ 5 + k → (w.setCell ⟨B, 5 + k, none⟩ (.int .i64 n)).cell? ⟨B, o, none⟩ = w.cell? ⟨B, o, none⟩ := fun o ho => World.cell?_setCell_other _ ⟨B, 5 + k, none⟩ ⟨B, o, none⟩ _ (by simp [ho])
  have hs : (w.setCell ⟨B, 5 + k, none⟩ (.int .i64 n)).cell? ⟨B, 5 + k, none⟩ = some (.int .i64 n) := World.cell?_setCell_same' _ _ _ (by rw [h.supply hk]; rfl)
  have hlt : B < (w.setCell ⟨B, 5 + k, none⟩ (.int .i64 n)).heap.size := by have := h.lt; simpa [World.setCell] using this
  have hk' : k = 0 ∨ k = 1 ∨ k = 2 ∨ k = 3 ∨ k = 4 ∨ k = 5 := by omega
  rcases hk' with rfl | rfl | rfl | rfl | rfl | rfl <;>
    exact ⟨hlt, (ho 0 (by omega)).trans h.z0, (ho 1 (by omega)).trans h.z1, (ho 2 (by omega)).trans h.z2, (ho 3 (by omega)).trans h.z3, (ho 4 (by omega)).trans h.z4,
      by first | exact hs | exact (ho 5 (by omega)).trans h.z5, by first | exact hs | exact (ho 6 (by omega)).trans h.z6, by first | exact hs | exact (ho 7 (by omega)).trans h.z7,
      by first | exact hs | exact (ho 8 (by omega)).trans h.z8, by first | exact hs | exact (ho 9 (by omega)).trans h.z9, by first | exact hs | exact (ho 10 (by omega)).trans h.z10⟩
theorem TaskRd.more {w : World} {cA : Option Addr} {cc : Nat} {pA : Option Addr} {pc : Nat} {wA : Option Addr} {wc : Nat} {uA : Option Addr} {uc : Nat} {t : Task} (h : TaskRd w cA cc pA pc wA wc uA uc t) {k : Nat} {n : Int} (hn : 0 ≤ n ∧ n ≤ 100) :
    TaskRd w cA cc pA pc wA wc uA uc (moreT t k n) := by
  have hi : I64 n := by unfold I64; omega
  have hw := h.wf
  exact ⟨h.cloth, h.wishes, h.wlen, h.wcap, h.unlike, h.ulen, h.ucap, ⟨hw.cloth, hw.wishes, hw.unlike, (by simp only [moreT]; split; exact hi; exact hw.s0), (by simp only [moreT]; split; exact hi; exact hw.s1), (by simp only [moreT]; split; exact hi; exact hw.s2), (by simp only [moreT]; split; exact hi; exact hw.s3), (by simp only [moreT]; split; exact hi; exact hw.s4), (by simp only [moreT]; split; exact hi; exact hw.s5)⟩⟩

set_option maxRecDepth 100000 in
set_option maxHeartbeats 8000000 in
theorem law_more {w : World} {cA : Option Addr} {cc : Nat} {pA : Option Addr} {pc : Nat} {wA : Option Addr} {wc : Nat} {uA : Option Addr} {uc : Nat} {t : Task} (h : TaskRd w cA cc pA pc wA wc uA uc t) (hwn : wA = none → wc = 0)
    {ca ma qn : Nat} (hca : ca < 256) (hma : ma < 256) (hqn : qn < 65536) (hT : TabW w) :
    Calls Tryd.prog 7 #[taskVal cA cc pA pc wA wc uA uc t, .agg #[.int .u8 (ca : Nat), .int .u8 (ma : Nat)], .int .u16 (qn : Nat)] w fun e w' => e = .returned (.bool true) ∧ Below w.heap.size w w' := by
  have HWN := Lib.hid hwn
  clear hwn
  go_enter Tryd.func7, Tryd.ntmps7
  go_wp2_with fail
  have hB := below_box2 w (.cells #[.int .i64 t.cloth.threads, .slice cA t.cloth.crosses.length cc, .slice pA t.cloth.pins.length pc, .slice wA t.wishes.length wc, .slice uA t.unlike.length uc, .int .i64 t.s0, .int .i64 t.s1, .int .i64 t.s2, .int .i64 t.s3, .int .i64 t.s4, .int .i64 t.s5] 30) (.cells #[.int .u8 (ca : Nat), .int .u8 (ma : Nat)] 46)
  have hBo := (taskBox_box w cA cc pA pc wA wc uA uc t 30).below (below_box (.cells #[.int .u8 (ca : Nat), .int .u8 (ma : Nat)] 46))
  have h := h.below hB
  have hT := hT.below hB
  have a0 : ((w.alloc (.cells #[.int .i64 t.cloth.threads, .slice cA t.cloth.crosses.length cc, .slice pA t.cloth.pins.length pc, .slice wA t.wishes.length wc, .slice uA t.unlike.length uc, .int .i64 t.s0, .int .i64 t.s1, .int .i64 t.s2, .int .i64 t.s3, .int .i64 t.s4, .int .i64 t.s5] 30)).alloc (.cells #[.int .u8 (ca : Nat), .int .u8 (ma : Nat)] 46)).cell? ⟨w.heap.size + 1, 0, none⟩ = some (.int .u8 (ca : Nat)) := by simp
  have a1 : ((w.alloc (.cells #[.int .i64 t.cloth.threads, .slice cA t.cloth.crosses.length cc, .slice pA t.cloth.pins.length pc, .slice wA t.wishes.length wc, .slice uA t.unlike.length uc, .int .i64 t.s0, .int .i64 t.s1, .int .i64 t.s2, .int .i64 t.s3, .int .i64 t.s4, .int .i64 t.s5] 30)).alloc (.cells #[.int .u8 (ca : Nat), .int .u8 (ma : Nat)] 46)).cell? ⟨w.heap.size + 1, 1, none⟩ = some (.int .u8 (ma : Nat)) := by simp
  have hW1 : w.heap.size + 1 < ((w.alloc (.cells #[.int .i64 t.cloth.threads, .slice cA t.cloth.crosses.length cc, .slice pA t.cloth.pins.length pc, .slice wA t.wishes.length wc, .slice uA t.unlike.length uc, .int .i64 t.s0, .int .i64 t.s1, .int .i64 t.s2, .int .i64 t.s3, .int .i64 t.s4, .int .i64 t.s5] 30)).alloc (.cells #[.int .u8 (ca : Nat), .int .u8 (ma : Nat)] 46)).heap.size := by simp
  generalize ((w.alloc (.cells #[.int .i64 t.cloth.threads, .slice cA t.cloth.crosses.length cc, .slice pA t.cloth.pins.length pc, .slice wA t.wishes.length wc, .slice uA t.unlike.length uc, .int .i64 t.s0, .int .i64 t.s1, .int .i64 t.s2, .int .i64 t.s3, .int .i64 t.s4, .int .i64 t.s5] 30)).alloc (.cells #[.int .u8 (ca : Nat), .int .u8 (ma : Nat)] 46)) = W at *
  go_region
  obtain ⟨hBlt, z0, z1, z2, z3, z4, z5, z6, z7, z8, z9, z10⟩ := id hBo
  go_wp2_with fail
  refine (far_any (h.below (Below.refl _ W).drew)).mono ?_
  rintro e w1 ⟨⟨b, rfl⟩, hb1⟩
  have hb1 : Below W.heap.size W w1 := (Below.refl _ W).drew.trans hb1
  have hwl := h.wlen
  have hwm := h.wcap
  unfold maxLen at hwm
  clear a0 a1 hW1
  have hBo := hBo.below hb1
  have h := h.below hb1
  have hT := hT.below hb1
  have hB := hB.trans (hb1.mono hB.size)
  clear hb1 z0 z1 z2 z3 z4 z5 z6 z7 z8 z9 z10 hBlt
  obtain ⟨hBlt, z0, z1, z2, z3, z4, z5, z6, z7, z8, z9, z10⟩ := id hBo
  cases b
  case true =>
    go_wp2_with fail
    refine (shown_any hT).mono ?_
    rintro e w9 ⟨rfl, hb9⟩
    have hB := hB.trans (hb9.mono hB.size)
    go_wp2_with fail
    exact bodyPost_ret (by simp [results, Tryd.f7, go_sem]) rfl ⟨rfl, hB⟩
  case false =>
    by_cases h30 : (30 : Int) ≤ (t.wishes.length : Int)
    · go_wp2_with fail
      refine (shown_any hT).mono ?_
      rintro e w9 ⟨rfl, hb9⟩
      have hB := hB.trans (hb9.mono hB.size)
      go_wp2_with fail
      exact bodyPost_ret (by simp [results, Tryd.f7, go_sem]) rfl ⟨rfl, hB⟩
    · have hd30 : decide ((30 : Int) ≤ (t.wishes.length : Int)) = false := by simp; omega
      go_wp2_with fail
      refine (reftask_any h).mono ?_
      rintro e wk ⟨rfl, hbc⟩
      have hBo := hBo.below hbc
      have h := h.below hbc
      have hT := hT.below hbc
      have hB := hB.trans (hbc.mono hB.size)
      clear hbc z0 z1 z2 z3 z4 z5 z6 z7 z8 z9 z10 hBlt
      obtain ⟨hBlt, z0, z1, z2, z3, z4, z5, z6, z7, z8, z9, z10⟩ := id hBo
      by_cases h0 : taskB t = 0
      · simp only [h0]
        have hk6 : ca % 6 < 6 := Nat.mod_lt _ (by omega)
        obtain ⟨k, hkk⟩ : ∃ k, k = ca % 6 := ⟨_, rfl⟩
        rw [← hkk] at hk6
        have hq6 : (ca : Int) % 6 = (k : Int) := by omega
        clear hkk
        go_wp2_with fail
        refine (dysolve_any h).mono ?_
        rintro e w2 ⟨v, rfl, hv2, hb2⟩
        have hBo2 := hBo.below hb2
        have h2 := h.below hb2
        have hT2 := hT.below hb2
        have hB2 := hB.trans (hb2.mono hB.size)
        clear hb2 z0 z1 z2 z3 z4 z5 z6 z7 z8 z9 z10 hBlt hBo h hT hB
        obtain ⟨hBlt, z0, z1, z2, z3, z4, z5, z6, z7, z8, z9, z10⟩ := id hBo2
        go_upto_region 6 with fail
        have hbx := below_box (w := w2) (.cells #[.int .i64 t.cloth.threads, .slice cA t.cloth.crosses.length cc, .slice pA t.cloth.pins.length pc, .slice wA t.wishes.length wc, .slice uA t.unlike.length uc, .int .i64 t.s0, .int .i64 t.s1, .int .i64 t.s2, .int .i64 t.s3, .int .i64 t.s4, .int .i64 t.s5] 30)
        have hXo := taskBox_box w2 cA cc pA pc wA wc uA uc t 30
        have hXf : ∀ o, (w2.alloc (.cells #[.int .i64 t.cloth.threads, .slice cA t.cloth.crosses.length cc, .slice pA t.cloth.pins.length pc, .slice wA t.wishes.length wc, .slice uA t.unlike.length uc, .int .i64 t.s0, .int .i64 t.s1, .int .i64 t.s2, .int .i64 t.s3, .int .i64 t.s4, .int .i64 t.s5] 30)).frozen? ⟨w2.heap.size, o, none⟩ = false := fun o => by simp
        clear z0 z1 z2 z3 z4 z5 z6 z7 z8 z9 z10
        generalize (w2.alloc (.cells #[.int .i64 t.cloth.threads, .slice cA t.cloth.crosses.length cc, .slice pA t.cloth.pins.length pc, .slice wA t.wishes.length wc, .slice uA t.unlike.length uc, .int .i64 t.s0, .int .i64 t.s1, .int .i64 t.s2, .int .i64 t.s3, .int .i64 t.s4, .int .i64 t.s5] 30)) = W2 at *
        have zk := hXo.supply hk6
        have fk := hXf (5 + k)
        have hki : (k : Int) < 6 := by omega
        generalize hsk : t.supply[k]?.getD 0 = s at *
        go_upto_region 8 with fail
        have hsb := (taskB_ok h0).supply k hk6
        rw [hsk] at hsb
        have hw : wrap64 (s + (ma : Int)) = s + (ma : Int) := by unfold wrap64; omega
        have hn : s ≤ (if 100 < wrap64 (s + (ma : Int)) then 100 else wrap64 (s + (ma : Int))) ∧ (if 100 < wrap64 (s + (ma : Int)) then 100 else wrap64 (s + (ma : Int))) ≤ 100 := by rw [hw]; split <;> omega
        clear hw
        generalize (if 100 < wrap64 (s + (ma : Int)) then (100 : Int) else wrap64 (s + (ma : Int))) = n at *
        have hn0 : 0 ≤ n ∧ n ≤ 100 := ⟨by omega, hn.2⟩
        have hways := more_ways h0 hk6 (n := n) (by rw [hsk]; exact hn)
        have hMo := hXo.more hk6 n
        have hbV : Below w2.heap.size w2 (W2.setCell ⟨w2.heap.size, 5 + k, none⟩ (.int .i64 n)) := hbx.setCell (p := ⟨w2.heap.size, 5 + k, none⟩) (by simp) _
        have hXf : ∀ o, (W2.setCell ⟨w2.heap.size, 5 + k, none⟩ (.int .i64 n)).frozen? ⟨w2.heap.size, o, none⟩ = false := fun o => by simpa using hXf o
        have H0 := Lib.hid h0
        clear zk fk hsk hn hsb hbx hXo h0 hq6
        generalize W2.setCell ⟨w2.heap.size, 5 + k, none⟩ (.int .i64 n) = W3 at *
        obtain ⟨hMlt, y0, y1, y2, y3, y4, y5, y6, y7, y8, y9, y10⟩ := id hMo
        go_wp2_with fail
        refine (dysolve_any ((h2.below hbV).more hn0)).mono ?_
        rintro e w4 ⟨v2, rfl, hv3, hb4⟩
        have hMo := hMo.below hb4
        have hXf : ∀ o, w4.frozen? ⟨w2.heap.size, o, none⟩ = false := fun o => (hb4.frozen (p := ⟨w2.heap.size, o, none⟩) hMlt).trans (hXf o)
        have hbV := hbV.trans (hb4.mono hbV.size)
        clear hb4 y0 y1 y2 y3 y4 y5 y6 y7 y8 y9 y10 hMlt
        rcases hways with ⟨r, m, hsr, hsm, hml, hlex⟩ | hsr
        · rw [hsm] at hv3
          have hv2 := hv2
          rw [hsr] at hv2
          simp only [hsr, hsm]
          obtain ⟨rA, rc, rfl, hr2⟩ := hv2
          obtain ⟨mA, mc, rfl, hm⟩ := hv3
          have hlenB : ((r.length : Int) != (m.length : Int)) = false := by simp [hml]
          have hml1 : r.length ≤ m.length := Nat.le_of_eq hml.symm
          have HLEX := Lib.hid hlex
          have HSR := Lib.hid hsr
          have HML := Lib.hid hml
          have hrl := hr2.len
          have hrm := hr2.cap
          unfold maxLen at hrm
          have hml3 := hm.len
          have hmm3 := hm.cap
          unfold maxLen at hmm3
          clear hml hlex hsr hsm
          go_wp2_with fail
          obtain ⟨W, hW⟩ : ∃ W : World, W = w4 := ⟨_, rfl⟩
          have hbV : Below w2.heap.size w2 W := by rw [hW]; exact hbV
          have hm : IntsRd W mA mc m := by rw [hW]; exact hm
          have hMo : TaskBox W w2.heap.size cA cc pA pc wA wc uA uc (moreT t k n) := by rw [hW]; exact hMo
          have hXf : ∀ o, W.frozen? ⟨w2.heap.size, o, none⟩ = false := by rw [hW]; exact hXf
          go_loopw [15] (fun i wr => ∃ j : Nat, j ≤ r.length ∧ i = .int .i64 j ∧ Below W.heap.size W wr ∧ ∀ a, a < j → m.getD a 0 = r.getD a 0) (fun i _ => r.length - (intOf i).toNat)
          case atStart => exact ⟨0, Nat.zero_le _, rfl, by rw [hW]; exact Below.refl _ _, fun j hj => absurd hj (Nat.not_lt_zero _)⟩
          case round =>
            clear hW
            obtain ⟨j, hj, rfl, hbW, hall⟩ := hrel
            have hr := (hr2.below hbV).below hbW
            have hm := hm.below hbW
            have hXZ : ∀ o, wr.frozen? ⟨w2.heap.size, o, none⟩ = false := fun o => (hbW.frozen (p := ⟨w2.heap.size, o, none⟩) hMo.lt).trans (hXf o)
            have hMZ := hMo.below hbW
            have hbZ := hbV.trans (hbW.mono hbV.size)
            have HALL := Lib.hid hall
            clear hall
            by_cases hjr : j < r.length
            · have hjm : j < m.length := by omega
              obtain ⟨rb, ro, rfl, hrb, hrc⟩ := hr.rows.int hjr
              obtain ⟨lb, lo, rfl, hlb, hlc⟩ := hm.rows.int hjm
              have hji : (j : Int) < (r.length : Int) := by omega
              have hjm2 : (j : Int) < (m.length : Int) := by omega
              have hrg : r.getD j 0 = r[j] := by simp [hjr]
              have hlg : m.getD j 0 = m[j] := by simp [hjm]
              have HR := Lib.hid hrg
              have HL := Lib.hid hlg
              clear hrg hlg
              generalize r[j] = x at *
              generalize m[j] = y at *
              go_wp2_with fail
              by_cases hxy : x = y
              · have HXY := Lib.hid hxy
                have hxy2 : (x == y) = true := by simp [hxy]
                clear hxy
                go_region
                go_wp2_with fail
                go_roundw
                case rel => exact ⟨j + 1, by omega, by go_num, hbW.drew, fun a ha => by
                  rcases Nat.lt_succ_iff_lt_or_eq.1 ha with h1 | h1
                  · exact HALL.out a h1
                  · rw [h1, HR.out, HL.out, HXY.out]⟩
                case measure => simp [intOf]; omega
              · have hlt : y < x := by
                  have := HLEX.out j hjm HALL.out (by rw [HR.out, HL.out]; exact fun e => hxy e.symm)
                  rwa [HR.out, HL.out] at this
                have hxy2 : (x == y) = false := by simp [hxy]
                have hgt : decide (x < y) = false := by simp; omega
                clear hxy
                have hrc' : wr.drew.cell? ⟨rb, ro + j, none⟩ = some (.int .i64 x) := hrc
                have hlc' : wr.drew.cell? ⟨lb, lo + j, none⟩ = some (.int .i64 y) := hlc
                have hbZ : Below w2.heap.size w2 wr.drew.drew := hbZ.drew.drew
                have hMZ := (hMZ.below (Below.refl _ _).drew).below (Below.refl _ _).drew
                have hXZ : ∀ o, wr.drew.drew.frozen? ⟨w2.heap.size, o, none⟩ = false := hXZ
                go_region
                go_wp2_with fail
                go_region
                clear hrc hlc hrc' hlc' hrb hlb hbW hr hm
                generalize wr.drew.drew = wz at *
                obtain ⟨hBlt, z0, z1, z2, z3, z4, z5, z6, z7, z8, z9, z10⟩ := hBo2.below hbZ
                obtain ⟨hMlt, y0, y1, y2, y3, y4, y5, y6, y7, y8, y9, y10⟩ := id hMZ
                by_cases hcr : t.cloth.crosses.length = 0
                · have hcrB : ((t.cloth.crosses.length : Int) == 0) = true := by simp [hcr]
                  clear hcr
                  go_wp2_with fail
                  refine (shown_any (hT2.below hbZ)).mono ?_
                  rintro e w9 ⟨rfl, hb9⟩
                  have hB9 := hB2.trans ((hbZ.trans (hb9.mono hbZ.size)).mono hB2.size)
                  go_wp2_with fail
                  exact bodyPost_ret (by simp [results, Tryd.f7, go_sem]) rfl ⟨rfl, hB9⟩
                · have hcrB : ((t.cloth.crosses.length : Int) == 0) = false := by simp [hcr]
                  have hcp : 0 < t.cloth.crosses.length := Nat.pos_of_ne_zero hcr
                  clear hcr
                  go_upto_region 20 with fail
                  generalize hW : ((((((((((wz.setCell ⟨w2.heap.size, 0, none⟩ (.int .i64 t.cloth.threads)).setCell ⟨w2.heap.size, 1, none⟩ (.slice cA t.cloth.crosses.length cc)).setCell ⟨w2.heap.size, 2, none⟩ (.slice pA t.cloth.pins.length pc)).setCell ⟨w2.heap.size, 3, none⟩ (.slice wA t.wishes.length wc)).setCell ⟨w2.heap.size, 4, none⟩ (.slice uA t.unlike.length uc)).setCell ⟨w2.heap.size, 5, none⟩ (.int .i64 t.s0)).setCell ⟨w2.heap.size, 6, none⟩ (.int .i64 t.s1)).setCell ⟨w2.heap.size, 7, none⟩ (.int .i64 t.s2)).setCell ⟨w2.heap.size, 8, none⟩ (.int .i64 t.s3)).setCell ⟨w2.heap.size, 9, none⟩ (.int .i64 t.s4)).setCell ⟨w2.heap.size, 10, none⟩ (.int .i64 t.s5) = W' at *
                  obtain ⟨hXb, hXg, hbY⟩ := box_put hMZ (Nat.le_refl _) hW
                  have hX3 : W'.frozen? ⟨w2.heap.size, 3, none⟩ = false := (hXg 3).trans (hXZ 3)
                  have hbY := hbZ.trans hbY
                  clear hW hXg hMZ hXZ hbZ hMlt hBlt z0 z1 z2 z3 z4 z5 z6 z7 z8 z9 z10 y0 y1 y2 y3 y4 y5 y6 y7 y8 y9 y10
                  obtain ⟨hBlt, _, z1, _, z3, _, _, _, _, _, _, _⟩ := hBo2.below hbY
                  obtain ⟨hMlt, _, _, _, y3, _, _, _, _, _, _, _⟩ := id hXb
                  have hTW := h2.below hbY
                  have hXB := hXb
                  clear hXb
                  obtain ⟨i0, hi0, hz0, hz1, hz2⟩ := info_parts info_wish
                  have hcpi : (0 : Int) < (t.cloth.crosses.length : Int) := by omega
                  have hnil : t.cloth.crosses ≠ [] := fun e => by rw [e] at hcp; cases hcp
                  have hwr : IntKind.i64.wrap (qn : Int) = (qn : Int) := IntWalk.i64_in _ (by omega)
                  obtain ⟨q, hqd⟩ : ∃ q : Int, q = (qn : Int) % (t.cloth.crosses.length : Int) := ⟨_, rfl⟩
                  have hqB : 0 ≤ q ∧ q < (t.cloth.crosses.length : Int) := by rw [hqd]; exact ⟨Int.emod_nonneg _ (by omega), Int.emod_lt_of_pos _ hcpi⟩
                  have hqt : (IntKind.i64.wrap (qn : Int)).tmod (t.cloth.crosses.length : Int) = q := by rw [hwr, hqd, Int.tmod_eq_emod_of_nonneg (by omega)]
                  clear hqd hwr
                  have hwn30 : t.wishes.length < 30 := by omega
                  have HXB := Lib.hid hXB
                  have HBY := Lib.hid hbY
                  have HTW := Lib.hid hTW
                  clear hXB hbY hTW
                  refine wp_region_noPanic ?_
                  refine wp_region_L (S := (fun w' => Below W'.heap.size W' w' ∧ (∀ b o, b < W'.heap.size → w'.cell? ⟨b, o, none⟩ = W'.cell? ⟨b, o, none⟩))) (L := 15) (by kernel_rfl) ?_
                  refine wpAnyL_take 20 (i := 1) (oi := { dst := some 112, op := Op.fieldAddr 30 (Operand.tmp 3) 1, type := 0, pos := "law.go:156", after := #[], guard := none }) (v := ?_) rfl (by kernel_rfl) (by kernel_rfl) (by kernel_rfl) (by kernel_rfl) (by kernel_rfl) (fun _ _ _ h => h) (.inl ⟨by rfl, ?_⟩) (held_drew W') ?_
                  rotate_left
                  · intro w hSw; (try dsimp only at hSw); go_simp; try (with_reducible rfl)
                  try simp only [Act.put, List.setIfInBounds_toArray, List.set_cons_zero, List.set_cons_succ]
                  refine wpAnyL_take 20 (i := 2) (oi := { dst := some 113, op := Op.load 26 (Operand.tmp 112), type := 26, pos := "law.go:156", after := #[{ on := 1, ground := Ground.data }], guard := none }) (v := ?_) rfl (by kernel_rfl) (by kernel_rfl) (by kernel_rfl) (by kernel_rfl) (by kernel_rfl) (fun _ _ _ h => h) (.inl ⟨by rfl, ?_⟩) (held_drew W') ?_
                  rotate_left
                  · intro w hSw; (try dsimp only at hSw); go_simp; try (with_reducible rfl)
                  try simp only [Act.put, List.setIfInBounds_toArray, List.set_cons_zero, List.set_cons_succ]
                  refine wpAnyL_take 20 (i := 4) (oi := { dst := some 115, op := Op.move (Operand.tmp 2), type := 47, pos := "law.go:156", after := #[], guard := none }) (v := ?_) rfl (by kernel_rfl) (by kernel_rfl) (by kernel_rfl) (by kernel_rfl) (by kernel_rfl) (fun _ _ _ h => h) (.inl ⟨by rfl, ?_⟩) (held_drew W') ?_
                  rotate_left
                  · intro w hSw; (try dsimp only at hSw); go_simp; try (with_reducible rfl)
                  try simp only [Act.put, List.setIfInBounds_toArray, List.set_cons_zero, List.set_cons_succ]
                  refine wpAnyL_take 20 (i := 5) (oi := { dst := some 116, op := Op.convert 47 3 (Operand.tmp 115), type := 3, pos := "law.go:156", after := #[{ on := 4, ground := Ground.data }], guard := none }) (v := ?_) rfl (by kernel_rfl) (by kernel_rfl) (by kernel_rfl) (by kernel_rfl) (by kernel_rfl) (fun _ _ _ h => h) (.inl ⟨by rfl, ?_⟩) (held_drew W') ?_
                  rotate_left
                  · intro w hSw; (try dsimp only at hSw); go_simp; try (with_reducible rfl)
                  try simp only [Act.put, List.setIfInBounds_toArray, List.set_cons_zero, List.set_cons_succ]
                  refine wpAnyL_take 20 (i := 6) (oi := { dst := some 117, op := Op.fieldAddr 30 (Operand.tmp 3) 0, type := 0, pos := "law.go:156", after := #[], guard := none }) (v := ?_) rfl (by kernel_rfl) (by kernel_rfl) (by kernel_rfl) (by kernel_rfl) (by kernel_rfl) (fun _ _ _ h => h) (.inl ⟨by rfl, ?_⟩) (held_drew W') ?_
                  rotate_left
                  · intro w hSw; (try dsimp only at hSw); go_simp; try (with_reducible rfl)
                  try simp only [Act.put, List.setIfInBounds_toArray, List.set_cons_zero, List.set_cons_succ]
                  refine wpAnyL_take 20 (i := 7) (oi := { dst := some 118, op := Op.fieldAddr 25 (Operand.tmp 117) 1, type := 0, pos := "law.go:156", after := #[{ on := 6, ground := Ground.data }], guard := none }) (v := ?_) rfl (by kernel_rfl) (by kernel_rfl) (by kernel_rfl) (by kernel_rfl) (by kernel_rfl) (fun _ _ _ h => h) (.inl ⟨by rfl, ?_⟩) (held_drew W') ?_
                  rotate_left
                  · intro w hSw; (try dsimp only at hSw); go_simp; try (with_reducible rfl)
                  try simp only [Act.put, List.setIfInBounds_toArray, List.set_cons_zero, List.set_cons_succ]
                  refine wpAnyL_take 20 (i := 8) (oi := { dst := some 119, op := Op.load 22 (Operand.tmp 118), type := 22, pos := "law.go:156", after := #[{ on := 7, ground := Ground.data }], guard := none }) (v := ?_) rfl (by kernel_rfl) (by kernel_rfl) (by kernel_rfl) (by kernel_rfl) (by kernel_rfl) (fun _ _ _ h => h) (.inl ⟨by rfl, ?_⟩) (held_drew W') ?_
                  rotate_left
                  · intro w hSw; (try dsimp only at hSw); go_simp; try (with_reducible rfl)
                  try simp only [Act.put, List.setIfInBounds_toArray, List.set_cons_zero, List.set_cons_succ]
                  refine wpAnyL_take 20 (i := 9) (oi := { dst := some 120, op := Op.call { callee := Callee.builtin Builtin.len, args := #[Operand.tmp 119], argTypes := #[22] }, type := 3, pos := "law.go:156", after := #[{ on := 8, ground := Ground.data }], guard := none }) (v := ?_) rfl (by kernel_rfl) (by kernel_rfl) (by kernel_rfl) (by kernel_rfl) (by kernel_rfl) (fun _ _ _ h => h) (.inl ⟨by rfl, ?_⟩) (held_drew W') ?_
                  rotate_left
                  · intro w hSw; (try dsimp only at hSw); go_simp; try (with_reducible rfl)
                  try simp only [Act.put, List.setIfInBounds_toArray, List.set_cons_zero, List.set_cons_succ]
                  refine wpAnyL_take 20 (i := 10) (oi := { dst := some 121, op := Op.binOp BinOp.rem 3 (Operand.tmp 116) (Operand.tmp 120) 3, type := 3, pos := "law.go:156", after := #[{ on := 5, ground := Ground.data }, { on := 9, ground := Ground.data }], guard := none }) (v := ?_) rfl (by kernel_rfl) (by kernel_rfl) (by kernel_rfl) (by kernel_rfl) (by kernel_rfl) (fun _ _ _ h => h) (.inl ⟨by rfl, ?_⟩) (held_drew W') ?_
                  rotate_left
                  · intro w hSw; (try dsimp only at hSw); go_simp; try (with_reducible rfl)
                  try simp only [Act.put, List.setIfInBounds_toArray, List.set_cons_zero, List.set_cons_succ]
                  refine wpAnyL_take 20 (i := 11) (oi := { dst := some 122, op := Op.build 43 #[(0, Operand.tmp 121), (1, Operand.const (Value.int IntKind.u8 63))], type := 43, pos := "law.go:156", after := #[{ on := 10, ground := Ground.data }], guard := none }) (v := ?_) rfl (by kernel_rfl) (by kernel_rfl) (by kernel_rfl) (by kernel_rfl) (by kernel_rfl) (fun _ _ _ h => h) (.inl ⟨by rfl, ?_⟩) (held_drew W') ?_
                  rotate_left
                  · intro w hSw; (try dsimp only at hSw); go_simp; try (with_reducible rfl)
                  try simp only [Act.put, List.setIfInBounds_toArray, List.set_cons_zero, List.set_cons_succ]
                  refine wpAnyL_two (i := 0) (k := 12) (o := { dst := some 111, op := Op.buildSlice 26 0 #[], type := 26, pos := "law.go:156", after := #[], guard := none }) (o' := { dst := some 123, op := Op.buildSlice 26 1 #[(0, Operand.tmp 122)], type := 26, pos := "law.go:156", after := #[{ on := 11, ground := Ground.data }], guard := none }) (by kernel_rfl) rfl rfl (by rfl) (by rfl) (fun K hK => ?_) (fun K hK => ?_)
                  focus
                    go_simp
                    have hqa := held_box W' (.cells #[] 43)
                    have hla := own_lit_wish2 (base := W'.heap.size) (e := 43) W' (Nat.le_refl _)
                    have hsa : W'.heap.size < ((W'.alloc (.cells #[] 43)).drew).heap.size := by simp
                    refine hK _ _ (fun _ => hqa) ?_
                    clear hK K
                    generalize (W'.alloc (.cells #[] 43)).drew = wa at *
                    try simp only [Act.put, List.setIfInBounds_toArray, List.set_cons_zero, List.set_cons_succ]
                    refine wpAnyL_two (i := 3) (k := 12) (o := { dst := some 114, op := Op.call { callee := Callee.builtin Builtin.append, args := #[Operand.tmp 111, Operand.tmp 113], argTypes := #[26, 26] }, type := 26, pos := "law.go:156", after := #[{ on := 0, ground := Ground.data }, { on := 2, ground := Ground.data }], guard := none }) (o' := { dst := some 123, op := Op.buildSlice 26 1 #[(0, Operand.tmp 122)], type := 26, pos := "law.go:156", after := #[{ on := 11, ground := Ground.data }], guard := none }) (by kernel_rfl) rfl rfl (by rfl) (by rfl) (fun K hK => ?_) (fun K hK => ?_)
                    focus
                      refine wp_append_wishes _ (.tmp 111) (.tmp 113) 26 43 i0 rfl Tryd.underlying26 hi0 hz0 hz1 hz2 W'.heap.size (.slice (some ⟨W'.heap.size, 0, none⟩) ([] : List Wish).length 0) [] rfl hla wA wc t.wishes rfl (HTW.out.wishes.below hqa.1) HWN.out (by simp; omega) (Nat.le_of_lt hsa) ?_
                      intro L1 A1 c1 w3 hL1 hl3 hgr1 hge1
                      have hq3 := heldB_grown (B := W'.heap.size) (wr := W') (Nat.le_refl _) hqa hgr1 hge1
                      have hll1 : L1.length = t.wishes.length := by rw [hL1]; simp
                      have HL1 := Lib.hid hL1
                      have hl1a : L1.length ≤ 30 := by omega
                      clear hgr1 hge1 hL1 hll1
                      have hsz3 := hq3.1.size
                      refine hK _ _ (fun _ => hq3) ?_
                      clear hK K
                      try simp only [Act.put, List.setIfInBounds_toArray, List.set_cons_zero, List.set_cons_succ]
                      refine wpAnyL_one (i := 12) (o := { dst := some 123, op := Op.buildSlice 26 1 #[(0, Operand.tmp 122)], type := 26, pos := "law.go:156", after := #[{ on := 11, ground := Ground.data }], guard := none }) (by kernel_rfl) rfl (by rfl) (fun K hK => ?_)
                      go_simp
                      have hqb := heldB_alloc (Nat.le_refl _) hq3 (.cells #[.int .i64 q, .int .u8 (63 : Nat)] 43)
                      have hcb := cellsAt_lit w3 ⟨q, 63⟩ 43
                      have hlb := hl3.alloc (.cells #[.int .i64 q, .int .u8 (63 : Nat)] 43)
                      refine hK _ _ (fun _ => hqb) ?_
                      clear hK K hl3
                      generalize w3.alloc (.cells #[.int .i64 q, .int .u8 (63 : Nat)] 43) = wb at *
                      try simp only [Act.put, List.setIfInBounds_toArray, List.set_cons_zero, List.set_cons_succ]
                      refine wpAnyL_one (i := 13) (o := { dst := some 124, op := Op.call { callee := Callee.builtin Builtin.append, args := #[Operand.tmp 114, Operand.tmp 123], argTypes := #[26, 26] }, type := 26, pos := "law.go:156", after := #[{ on := 3, ground := Ground.data }, { on := 12, ground := Ground.data }, { on := 3, ground := Ground.chain }], guard := none }) (by kernel_rfl) rfl (by rfl) (fun K hK => ?_)
                      refine wp_append_wish _ (.tmp 114) (.tmp 123) 26 43 i0 rfl Tryd.underlying26 hi0 hz0 hz1 hz2 W'.heap.size (.slice A1 L1.length c1) L1 rfl hlb ⟨w3.heap.size, 0, none⟩ ⟨q, 63⟩ rfl hcb (by omega) (by have := hqb.1.size; omega) ?_
                      intro L2 g2 c2 w5 hL2 hown2 hgr2 hge2 hg2 hgb2
                      have hq5 := heldB_grown (B := W'.heap.size) (wr := W') (Nat.le_refl _) hqb hgr2 hge2
                      have HL2 := Lib.hid hL2
                      have hl2a : L2.length ≤ 31 := by rw [hL2]; simp; omega
                      clear hgr2 hge2 hL2 hlb hcb
                      refine hK _ _ (fun _ => hq5) ?_
                      clear hK K
                      have x3 := (hq5.2 w2.heap.size 3 hMlt).trans y3
                      have f3 := (hq5.1.frozen (p := ⟨w2.heap.size, 3, none⟩) hMlt).trans hX3
                      try simp only [Act.put, List.setIfInBounds_toArray, List.set_cons_zero, List.set_cons_succ]
                      refine wpAnyL_take 20 (i := 14) (oi := { dst := some 125, op := Op.fieldAddr 30 (Operand.tmp 11) 1, type := 0, pos := "law.go:156", after := #[{ on := 0, ground := Ground.phase }, { on := 1, ground := Ground.phase }, { on := 2, ground := Ground.phase }, { on := 3, ground := Ground.phase }, { on := 4, ground := Ground.phase }, { on := 5, ground := Ground.phase }, { on := 6, ground := Ground.phase }, { on := 7, ground := Ground.phase }, { on := 8, ground := Ground.phase }, { on := 9, ground := Ground.phase }, { on := 10, ground := Ground.phase }, { on := 11, ground := Ground.phase }, { on := 12, ground := Ground.phase }, { on := 13, ground := Ground.phase }], guard := none }) (v := ?_) rfl (by kernel_rfl) (by kernel_rfl) (by kernel_rfl) (by kernel_rfl) (by kernel_rfl) (fun _ _ _ h => h) (.inl ⟨by rfl, ?_⟩) (by assumption) ?_
                      rotate_left
                      · intro w hSw; (try dsimp only at hSw); go_simp; try (with_reducible rfl)
                      try simp only [Act.put, List.setIfInBounds_toArray, List.set_cons_zero, List.set_cons_succ]
                      refine wpAnyL_one (i := 15) (o := { dst := none, op := Op.store 26 (Operand.tmp 125) (Operand.tmp 124), type := 0, pos := "law.go:156", after := #[{ on := 14, ground := Ground.data }, { on := 13, ground := Ground.data }, { on := 13, ground := Ground.chain }, { on := 0, ground := Ground.phase }, { on := 1, ground := Ground.phase }, { on := 2, ground := Ground.phase }, { on := 3, ground := Ground.phase }, { on := 4, ground := Ground.phase }, { on := 5, ground := Ground.phase }, { on := 6, ground := Ground.phase }, { on := 7, ground := Ground.phase }, { on := 8, ground := Ground.phase }, { on := 9, ground := Ground.phase }, { on := 10, ground := Ground.phase }, { on := 11, ground := Ground.phase }, { on := 12, ground := Ground.phase }, { on := 13, ground := Ground.phase }], guard := none }) (by kernel_rfl) rfl (by rfl) (fun K hK => ?_)
                      go_simp
                      refine hK _ _ (fun hne => absurd rfl hne) ?_
                      clear hK K
                      try simp only [Act.put, List.setIfInBounds_toArray, List.set_cons_zero, List.set_cons_succ]
                      refine wpAnyL_done (by kernel_rfl) ?_ _
                      refine NoPanic.normal ?_
                    rotate_left 1
                    focus
                      go_simp
                      have hqb := heldB_alloc (Nat.le_refl _) hqa (.cells #[.int .i64 q, .int .u8 (63 : Nat)] 43)
                      have hcb := cellsAt_lit wa ⟨q, 63⟩ 43
                      have hlb := hla.alloc (.cells #[.int .i64 q, .int .u8 (63 : Nat)] 43)
                      have hsb : wa.heap.size < (wa.alloc (.cells #[.int .i64 q, .int .u8 (63 : Nat)] 43)).heap.size := by simp
                      refine hK _ _ (fun _ => hqb) ?_
                      clear hK K hla
                      generalize wa.alloc (.cells #[.int .i64 q, .int .u8 (63 : Nat)] 43) = wb at *
                      try simp only [Act.put, List.setIfInBounds_toArray, List.set_cons_zero, List.set_cons_succ]
                      refine wpAnyL_one (i := 3) (o := { dst := some 114, op := Op.call { callee := Callee.builtin Builtin.append, args := #[Operand.tmp 111, Operand.tmp 113], argTypes := #[26, 26] }, type := 26, pos := "law.go:156", after := #[{ on := 0, ground := Ground.data }, { on := 2, ground := Ground.data }], guard := none }) (by kernel_rfl) rfl (by rfl) (fun K hK => ?_)
                      refine wp_append_wishes _ (.tmp 111) (.tmp 113) 26 43 i0 rfl Tryd.underlying26 hi0 hz0 hz1 hz2 W'.heap.size (.slice (some ⟨W'.heap.size, 0, none⟩) ([] : List Wish).length 0) [] rfl hlb wA wc t.wishes rfl (HTW.out.wishes.below hqb.1) HWN.out (by simp; omega) (by omega) ?_
                      intro L1 A1 c1 w3 hL1 hl3 hgr1 hge1
                      have hq3 := heldB_grown (B := W'.heap.size) (wr := W') (Nat.le_refl _) hqb hgr1 hge1
                      have hll1 : L1.length = t.wishes.length := by rw [hL1]; simp
                      have HL1 := Lib.hid hL1
                      have hl1a : L1.length ≤ 30 := by omega
                      have hc3 := cellsAt_grown hcb hgr1 (by omega) (by simp [Value.ownBlock]; omega)
                      clear hgr1 hge1 hL1 hll1
                      have hsz3 := hq3.1.size
                      refine hK _ _ (fun _ => hq3) ?_
                      clear hK K
                      try simp only [Act.put, List.setIfInBounds_toArray, List.set_cons_zero, List.set_cons_succ]
                      refine wpAnyL_one (i := 13) (o := { dst := some 124, op := Op.call { callee := Callee.builtin Builtin.append, args := #[Operand.tmp 114, Operand.tmp 123], argTypes := #[26, 26] }, type := 26, pos := "law.go:156", after := #[{ on := 3, ground := Ground.data }, { on := 12, ground := Ground.data }, { on := 3, ground := Ground.chain }], guard := none }) (by kernel_rfl) rfl (by rfl) (fun K hK => ?_)
                      refine wp_append_wish _ (.tmp 114) (.tmp 123) 26 43 i0 rfl Tryd.underlying26 hi0 hz0 hz1 hz2 W'.heap.size (.slice A1 L1.length c1) L1 rfl hl3 ⟨wa.heap.size, 0, none⟩ ⟨q, 63⟩ rfl hc3 (by omega) (by have := hq3.1.size; omega) ?_
                      intro L2 g2 c2 w5 hL2 hown2 hgr2 hge2 hg2 hgb2
                      have hq5 := heldB_grown (B := W'.heap.size) (wr := W') (Nat.le_refl _) hq3 hgr2 hge2
                      have HL2 := Lib.hid hL2
                      have hl2a : L2.length ≤ 31 := by rw [hL2]; simp; omega
                      clear hgr2 hge2 hL2 hl3 hc3
                      refine hK _ _ (fun _ => hq5) ?_
                      clear hK K
                      have x3 := (hq5.2 w2.heap.size 3 hMlt).trans y3
                      have f3 := (hq5.1.frozen (p := ⟨w2.heap.size, 3, none⟩) hMlt).trans hX3
                      try simp only [Act.put, List.setIfInBounds_toArray, List.set_cons_zero, List.set_cons_succ]
                      refine wpAnyL_take 20 (i := 14) (oi := { dst := some 125, op := Op.fieldAddr 30 (Operand.tmp 11) 1, type := 0, pos := "law.go:156", after := #[{ on := 0, ground := Ground.phase }, { on := 1, ground := Ground.phase }, { on := 2, ground := Ground.phase }, { on := 3, ground := Ground.phase }, { on := 4, ground := Ground.phase }, { on := 5, ground := Ground.phase }, { on := 6, ground := Ground.phase }, { on := 7, ground := Ground.phase }, { on := 8, ground := Ground.phase }, { on := 9, ground := Ground.phase }, { on := 10, ground := Ground.phase }, { on := 11, ground := Ground.phase }, { on := 12, ground := Ground.phase }, { on := 13, ground := Ground.phase }], guard := none }) (v := ?_) rfl (by kernel_rfl) (by kernel_rfl) (by kernel_rfl) (by kernel_rfl) (by kernel_rfl) (fun _ _ _ h => h) (.inl ⟨by rfl, ?_⟩) (by assumption) ?_
                      rotate_left
                      · intro w hSw; (try dsimp only at hSw); go_simp; try (with_reducible rfl)
                      try simp only [Act.put, List.setIfInBounds_toArray, List.set_cons_zero, List.set_cons_succ]
                      refine wpAnyL_one (i := 15) (o := { dst := none, op := Op.store 26 (Operand.tmp 125) (Operand.tmp 124), type := 0, pos := "law.go:156", after := #[{ on := 14, ground := Ground.data }, { on := 13, ground := Ground.data }, { on := 13, ground := Ground.chain }, { on := 0, ground := Ground.phase }, { on := 1, ground := Ground.phase }, { on := 2, ground := Ground.phase }, { on := 3, ground := Ground.phase }, { on := 4, ground := Ground.phase }, { on := 5, ground := Ground.phase }, { on := 6, ground := Ground.phase }, { on := 7, ground := Ground.phase }, { on := 8, ground := Ground.phase }, { on := 9, ground := Ground.phase }, { on := 10, ground := Ground.phase }, { on := 11, ground := Ground.phase }, { on := 12, ground := Ground.phase }, { on := 13, ground := Ground.phase }], guard := none }) (by kernel_rfl) rfl (by rfl) (fun K hK => ?_)
                      go_simp
                      refine hK _ _ (fun hne => absurd rfl hne) ?_
                      clear hK K
                      try simp only [Act.put, List.setIfInBounds_toArray, List.set_cons_zero, List.set_cons_succ]
                      refine wpAnyL_done (by kernel_rfl) ?_ _
                      refine NoPanic.normal ?_
                  rotate_left 2
                  focus
                    go_simp
                    have hqa := held_box W' (.cells #[.int .i64 q, .int .u8 (63 : Nat)] 43)
                    have hca := cellsAt_alloc_drew W' ⟨q, 63⟩ 43
                    have hsa : W'.heap.size < ((W'.alloc (.cells #[.int .i64 q, .int .u8 (63 : Nat)] 43)).drew).heap.size := by simp
                    refine hK _ _ (fun _ => hqa) ?_
                    clear hK K
                    generalize (W'.alloc (.cells #[.int .i64 q, .int .u8 (63 : Nat)] 43)).drew = wa at *
                    try simp only [Act.put, List.setIfInBounds_toArray, List.set_cons_zero, List.set_cons_succ]
                    refine wpAnyL_one (i := 0) (o := { dst := some 111, op := Op.buildSlice 26 0 #[], type := 26, pos := "law.go:156", after := #[], guard := none }) (by kernel_rfl) rfl (by rfl) (fun K hK => ?_)
                    go_simp
                    have hqb := heldB_alloc (Nat.le_refl _) hqa (.cells #[] 43)
                    have hcb := cellsAt_alloc hca hsa (.cells #[] 43)
                    have hlb := own_lit_wish3 (base := W'.heap.size) (e := 43) wa (Nat.le_of_lt hsa)
                    have hsb : wa.heap.size < (wa.alloc (.cells #[] 43)).heap.size := by simp
                    refine hK _ _ (fun _ => hqb) ?_
                    clear hK K hca
                    generalize wa.alloc (.cells #[] 43) = wb at *
                    try simp only [Act.put, List.setIfInBounds_toArray, List.set_cons_zero, List.set_cons_succ]
                    refine wpAnyL_one (i := 3) (o := { dst := some 114, op := Op.call { callee := Callee.builtin Builtin.append, args := #[Operand.tmp 111, Operand.tmp 113], argTypes := #[26, 26] }, type := 26, pos := "law.go:156", after := #[{ on := 0, ground := Ground.data }, { on := 2, ground := Ground.data }], guard := none }) (by kernel_rfl) rfl (by rfl) (fun K hK => ?_)
                    refine wp_append_wishes _ (.tmp 111) (.tmp 113) 26 43 i0 rfl Tryd.underlying26 hi0 hz0 hz1 hz2 W'.heap.size (.slice (some ⟨wa.heap.size, 0, none⟩) ([] : List Wish).length 0) [] rfl hlb wA wc t.wishes rfl (HTW.out.wishes.below hqb.1) HWN.out (by simp; omega) (by omega) ?_
                    intro L1 A1 c1 w3 hL1 hl3 hgr1 hge1
                    have hq3 := heldB_grown (B := W'.heap.size) (wr := W') (Nat.le_refl _) hqb hgr1 hge1
                    have hll1 : L1.length = t.wishes.length := by rw [hL1]; simp
                    have HL1 := Lib.hid hL1
                    have hl1a : L1.length ≤ 30 := by omega
                    have hc3 := cellsAt_grown hcb hgr1 (by omega) (by simp [Value.ownBlock]; omega)
                    clear hgr1 hge1 hL1 hll1
                    have hsz3 := hq3.1.size
                    refine hK _ _ (fun _ => hq3) ?_
                    clear hK K
                    try simp only [Act.put, List.setIfInBounds_toArray, List.set_cons_zero, List.set_cons_succ]
                    refine wpAnyL_one (i := 13) (o := { dst := some 124, op := Op.call { callee := Callee.builtin Builtin.append, args := #[Operand.tmp 114, Operand.tmp 123], argTypes := #[26, 26] }, type := 26, pos := "law.go:156", after := #[{ on := 3, ground := Ground.data }, { on := 12, ground := Ground.data }, { on := 3, ground := Ground.chain }], guard := none }) (by kernel_rfl) rfl (by rfl) (fun K hK => ?_)
                    refine wp_append_wish _ (.tmp 114) (.tmp 123) 26 43 i0 rfl Tryd.underlying26 hi0 hz0 hz1 hz2 W'.heap.size (.slice A1 L1.length c1) L1 rfl hl3 ⟨W'.heap.size, 0, none⟩ ⟨q, 63⟩ rfl hc3 (by omega) (by have := hq3.1.size; omega) ?_
                    intro L2 g2 c2 w5 hL2 hown2 hgr2 hge2 hg2 hgb2
                    have hq5 := heldB_grown (B := W'.heap.size) (wr := W') (Nat.le_refl _) hq3 hgr2 hge2
                    have HL2 := Lib.hid hL2
                    have hl2a : L2.length ≤ 31 := by rw [hL2]; simp; omega
                    clear hgr2 hge2 hL2 hl3 hc3
                    refine hK _ _ (fun _ => hq5) ?_
                    clear hK K
                    have x3 := (hq5.2 w2.heap.size 3 hMlt).trans y3
                    have f3 := (hq5.1.frozen (p := ⟨w2.heap.size, 3, none⟩) hMlt).trans hX3
                    try simp only [Act.put, List.setIfInBounds_toArray, List.set_cons_zero, List.set_cons_succ]
                    refine wpAnyL_take 20 (i := 14) (oi := { dst := some 125, op := Op.fieldAddr 30 (Operand.tmp 11) 1, type := 0, pos := "law.go:156", after := #[{ on := 0, ground := Ground.phase }, { on := 1, ground := Ground.phase }, { on := 2, ground := Ground.phase }, { on := 3, ground := Ground.phase }, { on := 4, ground := Ground.phase }, { on := 5, ground := Ground.phase }, { on := 6, ground := Ground.phase }, { on := 7, ground := Ground.phase }, { on := 8, ground := Ground.phase }, { on := 9, ground := Ground.phase }, { on := 10, ground := Ground.phase }, { on := 11, ground := Ground.phase }, { on := 12, ground := Ground.phase }, { on := 13, ground := Ground.phase }], guard := none }) (v := ?_) rfl (by kernel_rfl) (by kernel_rfl) (by kernel_rfl) (by kernel_rfl) (by kernel_rfl) (fun _ _ _ h => h) (.inl ⟨by rfl, ?_⟩) (by assumption) ?_
                    rotate_left
                    · intro w hSw; (try dsimp only at hSw); go_simp; try (with_reducible rfl)
                    try simp only [Act.put, List.setIfInBounds_toArray, List.set_cons_zero, List.set_cons_succ]
                    refine wpAnyL_one (i := 15) (o := { dst := none, op := Op.store 26 (Operand.tmp 125) (Operand.tmp 124), type := 0, pos := "law.go:156", after := #[{ on := 14, ground := Ground.data }, { on := 13, ground := Ground.data }, { on := 13, ground := Ground.chain }, { on := 0, ground := Ground.phase }, { on := 1, ground := Ground.phase }, { on := 2, ground := Ground.phase }, { on := 3, ground := Ground.phase }, { on := 4, ground := Ground.phase }, { on := 5, ground := Ground.phase }, { on := 6, ground := Ground.phase }, { on := 7, ground := Ground.phase }, { on := 8, ground := Ground.phase }, { on := 9, ground := Ground.phase }, { on := 10, ground := Ground.phase }, { on := 11, ground := Ground.phase }, { on := 12, ground := Ground.phase }, { on := 13, ground := Ground.phase }], guard := none }) (by kernel_rfl) rfl (by rfl) (fun K hK => ?_)
                    go_simp
                    refine hK _ _ (fun hne => absurd rfl hne) ?_
                    clear hK K
                    try simp only [Act.put, List.setIfInBounds_toArray, List.set_cons_zero, List.set_cons_succ]
                    refine wpAnyL_done (by kernel_rfl) ?_ _
                    refine NoPanic.normal ?_
                  all_goals
                    have hX5 := (HXB.out.below hq5.1).setW (some ⟨g2, 0, none⟩) c2 L2
                    have hB5 : Below w2.heap.size w2 (w5.setCell ⟨w2.heap.size, 3, none⟩ (.slice (some ⟨g2, 0, none⟩) L2.length c2)) := (HBY.out.trans (hq5.1.mono HBY.out.size)).setCell (p := ⟨w2.heap.size, 3, none⟩) (by simp) _
                    have hR5 := rows_of_owns (owns_keep (w' := w5.setCell ⟨w2.heap.size, 3, none⟩ (.slice (some ⟨g2, 0, none⟩) L2.length c2)) hown2 (fun k hk => Below.heap_setCell _ _ _ _ (by have := (hown2.lt k hk).1; simp; omega))) rfl
                    have e5 : Hid (solveR (setWT t L2) = (r, 0)) := by
                      have : setWT t L2 = wishT t ⟨q, 63⟩ := by rw [HL2.out, HL1.out]; rfl
                      rw [this]
                      refine Lib.hid ?_
                      rw [wish_same H0.out (by omega) hqB]
                      exact HSR.out
                    have hT5 := (h2.below hB5).setW (by rw [HL2.out, HL1.out]; exact wish_wf_snoc h2.wf (by have := hqB; have := h2.cloth.clen; have := h2.cloth.ccap; unfold maxLen at this; unfold I64; omega) (by omega)) hR5.1 hR5.2.1 hR5.2.2
                    have hr5 := hr2.below hB5
                    clear x3 f3 hq5 hown2 hR5 hX3 hBlt hMlt y3 z1 z3
                    generalize w5.setCell ⟨w2.heap.size, 3, none⟩ (.slice (some ⟨g2, 0, none⟩) L2.length c2) = W5 at *
                    obtain ⟨hMlt, y0, y1, y2, y3, y4, y5, y6, y7, y8, y9, y10⟩ := id hX5
                    go_wp2_with fail
                    refine (dysolve_any hT5).mono ?_
                    rintro e w6 ⟨v6, rfl, hv6, hb6⟩
                    rw [e5.out] at hv6
                    simp only [e5.out]
                    obtain ⟨mA2, mc2, rfl, hm6⟩ := hv6
                    have hr6 := hr5.below hb6
                    have hB6 := hB5.trans (hb6.mono hB5.size)
                    go_wp2_with fail
                    refine (same_any hr6 hm6).mono ?_
                    rintro e w7 ⟨rfl, hb7⟩
                    have hB7 := hB6.trans (hb7.mono hB6.size)
                    go_wp2_with fail
                    refine (shown_any (hT2.below hB7)).mono ?_
                    rintro e w9 ⟨rfl, hb9⟩
                    have hB9 := hB2.trans ((hB7.trans (hb9.mono hB7.size)).mono hB2.size)
                    go_wp2_with fail
                    exact bodyPost_ret (by simp [results, Tryd.f7, go_sem]) rfl ⟨rfl, hB9⟩

            · obtain rfl : j = r.length := by omega
              have hki : ¬ ((r.length : Int) < (r.length : Int)) := by omega
              clear hm hr hbW
              obtain ⟨wz, rfl⟩ : ∃ wz : World, wz = wr := ⟨_, rfl⟩
              obtain ⟨hBlt, z0, z1, z2, z3, z4, z5, z6, z7, z8, z9, z10⟩ := hBo2.below hbZ
              obtain ⟨hMlt, y0, y1, y2, y3, y4, y5, y6, y7, y8, y9, y10⟩ := id hMZ
              by_cases hcr : t.cloth.crosses.length = 0
              · have hcrB : ((t.cloth.crosses.length : Int) == 0) = true := by simp [hcr]
                clear hcr
                go_wp2_with fail
                refine (shown_any (hT2.below hbZ)).mono ?_
                rintro e w9 ⟨rfl, hb9⟩
                have hB9 := hB2.trans ((hbZ.trans (hb9.mono hbZ.size)).mono hB2.size)
                go_wp2_with fail
                exact bodyPost_ret (by simp [results, Tryd.f7, go_sem]) rfl ⟨rfl, hB9⟩
              · have hcrB : ((t.cloth.crosses.length : Int) == 0) = false := by simp [hcr]
                have hcp : 0 < t.cloth.crosses.length := Nat.pos_of_ne_zero hcr
                clear hcr
                go_upto_region 20 with fail
                generalize hW : ((((((((((wz.setCell ⟨w2.heap.size, 0, none⟩ (.int .i64 t.cloth.threads)).setCell ⟨w2.heap.size, 1, none⟩ (.slice cA t.cloth.crosses.length cc)).setCell ⟨w2.heap.size, 2, none⟩ (.slice pA t.cloth.pins.length pc)).setCell ⟨w2.heap.size, 3, none⟩ (.slice wA t.wishes.length wc)).setCell ⟨w2.heap.size, 4, none⟩ (.slice uA t.unlike.length uc)).setCell ⟨w2.heap.size, 5, none⟩ (.int .i64 t.s0)).setCell ⟨w2.heap.size, 6, none⟩ (.int .i64 t.s1)).setCell ⟨w2.heap.size, 7, none⟩ (.int .i64 t.s2)).setCell ⟨w2.heap.size, 8, none⟩ (.int .i64 t.s3)).setCell ⟨w2.heap.size, 9, none⟩ (.int .i64 t.s4)).setCell ⟨w2.heap.size, 10, none⟩ (.int .i64 t.s5) = W' at *
                obtain ⟨hXb, hXg, hbY⟩ := box_put hMZ (Nat.le_refl _) hW
                have hX3 : W'.frozen? ⟨w2.heap.size, 3, none⟩ = false := (hXg 3).trans (hXZ 3)
                have hbY := hbZ.trans hbY
                clear hW hXg hMZ hXZ hbZ hMlt hBlt z0 z1 z2 z3 z4 z5 z6 z7 z8 z9 z10 y0 y1 y2 y3 y4 y5 y6 y7 y8 y9 y10
                obtain ⟨hBlt, _, z1, _, z3, _, _, _, _, _, _, _⟩ := hBo2.below hbY
                obtain ⟨hMlt, _, _, _, y3, _, _, _, _, _, _, _⟩ := id hXb
                have hTW := h2.below hbY
                have hXB := hXb
                clear hXb
                obtain ⟨i0, hi0, hz0, hz1, hz2⟩ := info_parts info_wish
                have hcpi : (0 : Int) < (t.cloth.crosses.length : Int) := by omega
                have hnil : t.cloth.crosses ≠ [] := fun e => by rw [e] at hcp; cases hcp
                have hwr : IntKind.i64.wrap (qn : Int) = (qn : Int) := IntWalk.i64_in _ (by omega)
                obtain ⟨q, hqd⟩ : ∃ q : Int, q = (qn : Int) % (t.cloth.crosses.length : Int) := ⟨_, rfl⟩
                have hqB : 0 ≤ q ∧ q < (t.cloth.crosses.length : Int) := by rw [hqd]; exact ⟨Int.emod_nonneg _ (by omega), Int.emod_lt_of_pos _ hcpi⟩
                have hqt : (IntKind.i64.wrap (qn : Int)).tmod (t.cloth.crosses.length : Int) = q := by rw [hwr, hqd, Int.tmod_eq_emod_of_nonneg (by omega)]
                clear hqd hwr
                have hwn30 : t.wishes.length < 30 := by omega
                have HXB := Lib.hid hXB
                have HBY := Lib.hid hbY
                have HTW := Lib.hid hTW
                clear hXB hbY hTW
                refine wp_region_noPanic ?_
                refine wp_region_L (S := (fun w' => Below W'.heap.size W' w' ∧ (∀ b o, b < W'.heap.size → w'.cell? ⟨b, o, none⟩ = W'.cell? ⟨b, o, none⟩))) (L := 15) (by kernel_rfl) ?_
                refine wpAnyL_take 20 (i := 1) (oi := { dst := some 112, op := Op.fieldAddr 30 (Operand.tmp 3) 1, type := 0, pos := "law.go:156", after := #[], guard := none }) (v := ?_) rfl (by kernel_rfl) (by kernel_rfl) (by kernel_rfl) (by kernel_rfl) (by kernel_rfl) (fun _ _ _ h => h) (.inl ⟨by rfl, ?_⟩) (held_drew W') ?_
                rotate_left
                · intro w hSw; (try dsimp only at hSw); go_simp; try (with_reducible rfl)
                try simp only [Act.put, List.setIfInBounds_toArray, List.set_cons_zero, List.set_cons_succ]
                refine wpAnyL_take 20 (i := 2) (oi := { dst := some 113, op := Op.load 26 (Operand.tmp 112), type := 26, pos := "law.go:156", after := #[{ on := 1, ground := Ground.data }], guard := none }) (v := ?_) rfl (by kernel_rfl) (by kernel_rfl) (by kernel_rfl) (by kernel_rfl) (by kernel_rfl) (fun _ _ _ h => h) (.inl ⟨by rfl, ?_⟩) (held_drew W') ?_
                rotate_left
                · intro w hSw; (try dsimp only at hSw); go_simp; try (with_reducible rfl)
                try simp only [Act.put, List.setIfInBounds_toArray, List.set_cons_zero, List.set_cons_succ]
                refine wpAnyL_take 20 (i := 4) (oi := { dst := some 115, op := Op.move (Operand.tmp 2), type := 47, pos := "law.go:156", after := #[], guard := none }) (v := ?_) rfl (by kernel_rfl) (by kernel_rfl) (by kernel_rfl) (by kernel_rfl) (by kernel_rfl) (fun _ _ _ h => h) (.inl ⟨by rfl, ?_⟩) (held_drew W') ?_
                rotate_left
                · intro w hSw; (try dsimp only at hSw); go_simp; try (with_reducible rfl)
                try simp only [Act.put, List.setIfInBounds_toArray, List.set_cons_zero, List.set_cons_succ]
                refine wpAnyL_take 20 (i := 5) (oi := { dst := some 116, op := Op.convert 47 3 (Operand.tmp 115), type := 3, pos := "law.go:156", after := #[{ on := 4, ground := Ground.data }], guard := none }) (v := ?_) rfl (by kernel_rfl) (by kernel_rfl) (by kernel_rfl) (by kernel_rfl) (by kernel_rfl) (fun _ _ _ h => h) (.inl ⟨by rfl, ?_⟩) (held_drew W') ?_
                rotate_left
                · intro w hSw; (try dsimp only at hSw); go_simp; try (with_reducible rfl)
                try simp only [Act.put, List.setIfInBounds_toArray, List.set_cons_zero, List.set_cons_succ]
                refine wpAnyL_take 20 (i := 6) (oi := { dst := some 117, op := Op.fieldAddr 30 (Operand.tmp 3) 0, type := 0, pos := "law.go:156", after := #[], guard := none }) (v := ?_) rfl (by kernel_rfl) (by kernel_rfl) (by kernel_rfl) (by kernel_rfl) (by kernel_rfl) (fun _ _ _ h => h) (.inl ⟨by rfl, ?_⟩) (held_drew W') ?_
                rotate_left
                · intro w hSw; (try dsimp only at hSw); go_simp; try (with_reducible rfl)
                try simp only [Act.put, List.setIfInBounds_toArray, List.set_cons_zero, List.set_cons_succ]
                refine wpAnyL_take 20 (i := 7) (oi := { dst := some 118, op := Op.fieldAddr 25 (Operand.tmp 117) 1, type := 0, pos := "law.go:156", after := #[{ on := 6, ground := Ground.data }], guard := none }) (v := ?_) rfl (by kernel_rfl) (by kernel_rfl) (by kernel_rfl) (by kernel_rfl) (by kernel_rfl) (fun _ _ _ h => h) (.inl ⟨by rfl, ?_⟩) (held_drew W') ?_
                rotate_left
                · intro w hSw; (try dsimp only at hSw); go_simp; try (with_reducible rfl)
                try simp only [Act.put, List.setIfInBounds_toArray, List.set_cons_zero, List.set_cons_succ]
                refine wpAnyL_take 20 (i := 8) (oi := { dst := some 119, op := Op.load 22 (Operand.tmp 118), type := 22, pos := "law.go:156", after := #[{ on := 7, ground := Ground.data }], guard := none }) (v := ?_) rfl (by kernel_rfl) (by kernel_rfl) (by kernel_rfl) (by kernel_rfl) (by kernel_rfl) (fun _ _ _ h => h) (.inl ⟨by rfl, ?_⟩) (held_drew W') ?_
                rotate_left
                · intro w hSw; (try dsimp only at hSw); go_simp; try (with_reducible rfl)
                try simp only [Act.put, List.setIfInBounds_toArray, List.set_cons_zero, List.set_cons_succ]
                refine wpAnyL_take 20 (i := 9) (oi := { dst := some 120, op := Op.call { callee := Callee.builtin Builtin.len, args := #[Operand.tmp 119], argTypes := #[22] }, type := 3, pos := "law.go:156", after := #[{ on := 8, ground := Ground.data }], guard := none }) (v := ?_) rfl (by kernel_rfl) (by kernel_rfl) (by kernel_rfl) (by kernel_rfl) (by kernel_rfl) (fun _ _ _ h => h) (.inl ⟨by rfl, ?_⟩) (held_drew W') ?_
                rotate_left
                · intro w hSw; (try dsimp only at hSw); go_simp; try (with_reducible rfl)
                try simp only [Act.put, List.setIfInBounds_toArray, List.set_cons_zero, List.set_cons_succ]
                refine wpAnyL_take 20 (i := 10) (oi := { dst := some 121, op := Op.binOp BinOp.rem 3 (Operand.tmp 116) (Operand.tmp 120) 3, type := 3, pos := "law.go:156", after := #[{ on := 5, ground := Ground.data }, { on := 9, ground := Ground.data }], guard := none }) (v := ?_) rfl (by kernel_rfl) (by kernel_rfl) (by kernel_rfl) (by kernel_rfl) (by kernel_rfl) (fun _ _ _ h => h) (.inl ⟨by rfl, ?_⟩) (held_drew W') ?_
                rotate_left
                · intro w hSw; (try dsimp only at hSw); go_simp; try (with_reducible rfl)
                try simp only [Act.put, List.setIfInBounds_toArray, List.set_cons_zero, List.set_cons_succ]
                refine wpAnyL_take 20 (i := 11) (oi := { dst := some 122, op := Op.build 43 #[(0, Operand.tmp 121), (1, Operand.const (Value.int IntKind.u8 63))], type := 43, pos := "law.go:156", after := #[{ on := 10, ground := Ground.data }], guard := none }) (v := ?_) rfl (by kernel_rfl) (by kernel_rfl) (by kernel_rfl) (by kernel_rfl) (by kernel_rfl) (fun _ _ _ h => h) (.inl ⟨by rfl, ?_⟩) (held_drew W') ?_
                rotate_left
                · intro w hSw; (try dsimp only at hSw); go_simp; try (with_reducible rfl)
                try simp only [Act.put, List.setIfInBounds_toArray, List.set_cons_zero, List.set_cons_succ]
                refine wpAnyL_two (i := 0) (k := 12) (o := { dst := some 111, op := Op.buildSlice 26 0 #[], type := 26, pos := "law.go:156", after := #[], guard := none }) (o' := { dst := some 123, op := Op.buildSlice 26 1 #[(0, Operand.tmp 122)], type := 26, pos := "law.go:156", after := #[{ on := 11, ground := Ground.data }], guard := none }) (by kernel_rfl) rfl rfl (by rfl) (by rfl) (fun K hK => ?_) (fun K hK => ?_)
                focus
                  go_simp
                  have hqa := held_box W' (.cells #[] 43)
                  have hla := own_lit_wish2 (base := W'.heap.size) (e := 43) W' (Nat.le_refl _)
                  have hsa : W'.heap.size < ((W'.alloc (.cells #[] 43)).drew).heap.size := by simp
                  refine hK _ _ (fun _ => hqa) ?_
                  clear hK K
                  generalize (W'.alloc (.cells #[] 43)).drew = wa at *
                  try simp only [Act.put, List.setIfInBounds_toArray, List.set_cons_zero, List.set_cons_succ]
                  refine wpAnyL_two (i := 3) (k := 12) (o := { dst := some 114, op := Op.call { callee := Callee.builtin Builtin.append, args := #[Operand.tmp 111, Operand.tmp 113], argTypes := #[26, 26] }, type := 26, pos := "law.go:156", after := #[{ on := 0, ground := Ground.data }, { on := 2, ground := Ground.data }], guard := none }) (o' := { dst := some 123, op := Op.buildSlice 26 1 #[(0, Operand.tmp 122)], type := 26, pos := "law.go:156", after := #[{ on := 11, ground := Ground.data }], guard := none }) (by kernel_rfl) rfl rfl (by rfl) (by rfl) (fun K hK => ?_) (fun K hK => ?_)
                  focus
                    refine wp_append_wishes _ (.tmp 111) (.tmp 113) 26 43 i0 rfl Tryd.underlying26 hi0 hz0 hz1 hz2 W'.heap.size (.slice (some ⟨W'.heap.size, 0, none⟩) ([] : List Wish).length 0) [] rfl hla wA wc t.wishes rfl (HTW.out.wishes.below hqa.1) HWN.out (by simp; omega) (Nat.le_of_lt hsa) ?_
                    intro L1 A1 c1 w3 hL1 hl3 hgr1 hge1
                    have hq3 := heldB_grown (B := W'.heap.size) (wr := W') (Nat.le_refl _) hqa hgr1 hge1
                    have hll1 : L1.length = t.wishes.length := by rw [hL1]; simp
                    have HL1 := Lib.hid hL1
                    have hl1a : L1.length ≤ 30 := by omega
                    clear hgr1 hge1 hL1 hll1
                    have hsz3 := hq3.1.size
                    refine hK _ _ (fun _ => hq3) ?_
                    clear hK K
                    try simp only [Act.put, List.setIfInBounds_toArray, List.set_cons_zero, List.set_cons_succ]
                    refine wpAnyL_one (i := 12) (o := { dst := some 123, op := Op.buildSlice 26 1 #[(0, Operand.tmp 122)], type := 26, pos := "law.go:156", after := #[{ on := 11, ground := Ground.data }], guard := none }) (by kernel_rfl) rfl (by rfl) (fun K hK => ?_)
                    go_simp
                    have hqb := heldB_alloc (Nat.le_refl _) hq3 (.cells #[.int .i64 q, .int .u8 (63 : Nat)] 43)
                    have hcb := cellsAt_lit w3 ⟨q, 63⟩ 43
                    have hlb := hl3.alloc (.cells #[.int .i64 q, .int .u8 (63 : Nat)] 43)
                    refine hK _ _ (fun _ => hqb) ?_
                    clear hK K hl3
                    generalize w3.alloc (.cells #[.int .i64 q, .int .u8 (63 : Nat)] 43) = wb at *
                    try simp only [Act.put, List.setIfInBounds_toArray, List.set_cons_zero, List.set_cons_succ]
                    refine wpAnyL_one (i := 13) (o := { dst := some 124, op := Op.call { callee := Callee.builtin Builtin.append, args := #[Operand.tmp 114, Operand.tmp 123], argTypes := #[26, 26] }, type := 26, pos := "law.go:156", after := #[{ on := 3, ground := Ground.data }, { on := 12, ground := Ground.data }, { on := 3, ground := Ground.chain }], guard := none }) (by kernel_rfl) rfl (by rfl) (fun K hK => ?_)
                    refine wp_append_wish _ (.tmp 114) (.tmp 123) 26 43 i0 rfl Tryd.underlying26 hi0 hz0 hz1 hz2 W'.heap.size (.slice A1 L1.length c1) L1 rfl hlb ⟨w3.heap.size, 0, none⟩ ⟨q, 63⟩ rfl hcb (by omega) (by have := hqb.1.size; omega) ?_
                    intro L2 g2 c2 w5 hL2 hown2 hgr2 hge2 hg2 hgb2
                    have hq5 := heldB_grown (B := W'.heap.size) (wr := W') (Nat.le_refl _) hqb hgr2 hge2
                    have HL2 := Lib.hid hL2
                    have hl2a : L2.length ≤ 31 := by rw [hL2]; simp; omega
                    clear hgr2 hge2 hL2 hlb hcb
                    refine hK _ _ (fun _ => hq5) ?_
                    clear hK K
                    have x3 := (hq5.2 w2.heap.size 3 hMlt).trans y3
                    have f3 := (hq5.1.frozen (p := ⟨w2.heap.size, 3, none⟩) hMlt).trans hX3
                    try simp only [Act.put, List.setIfInBounds_toArray, List.set_cons_zero, List.set_cons_succ]
                    refine wpAnyL_take 20 (i := 14) (oi := { dst := some 125, op := Op.fieldAddr 30 (Operand.tmp 11) 1, type := 0, pos := "law.go:156", after := #[{ on := 0, ground := Ground.phase }, { on := 1, ground := Ground.phase }, { on := 2, ground := Ground.phase }, { on := 3, ground := Ground.phase }, { on := 4, ground := Ground.phase }, { on := 5, ground := Ground.phase }, { on := 6, ground := Ground.phase }, { on := 7, ground := Ground.phase }, { on := 8, ground := Ground.phase }, { on := 9, ground := Ground.phase }, { on := 10, ground := Ground.phase }, { on := 11, ground := Ground.phase }, { on := 12, ground := Ground.phase }, { on := 13, ground := Ground.phase }], guard := none }) (v := ?_) rfl (by kernel_rfl) (by kernel_rfl) (by kernel_rfl) (by kernel_rfl) (by kernel_rfl) (fun _ _ _ h => h) (.inl ⟨by rfl, ?_⟩) (by assumption) ?_
                    rotate_left
                    · intro w hSw; (try dsimp only at hSw); go_simp; try (with_reducible rfl)
                    try simp only [Act.put, List.setIfInBounds_toArray, List.set_cons_zero, List.set_cons_succ]
                    refine wpAnyL_one (i := 15) (o := { dst := none, op := Op.store 26 (Operand.tmp 125) (Operand.tmp 124), type := 0, pos := "law.go:156", after := #[{ on := 14, ground := Ground.data }, { on := 13, ground := Ground.data }, { on := 13, ground := Ground.chain }, { on := 0, ground := Ground.phase }, { on := 1, ground := Ground.phase }, { on := 2, ground := Ground.phase }, { on := 3, ground := Ground.phase }, { on := 4, ground := Ground.phase }, { on := 5, ground := Ground.phase }, { on := 6, ground := Ground.phase }, { on := 7, ground := Ground.phase }, { on := 8, ground := Ground.phase }, { on := 9, ground := Ground.phase }, { on := 10, ground := Ground.phase }, { on := 11, ground := Ground.phase }, { on := 12, ground := Ground.phase }, { on := 13, ground := Ground.phase }], guard := none }) (by kernel_rfl) rfl (by rfl) (fun K hK => ?_)
                    go_simp
                    refine hK _ _ (fun hne => absurd rfl hne) ?_
                    clear hK K
                    try simp only [Act.put, List.setIfInBounds_toArray, List.set_cons_zero, List.set_cons_succ]
                    refine wpAnyL_done (by kernel_rfl) ?_ _
                    refine NoPanic.normal ?_
                  rotate_left 1
                  focus
                    go_simp
                    have hqb := heldB_alloc (Nat.le_refl _) hqa (.cells #[.int .i64 q, .int .u8 (63 : Nat)] 43)
                    have hcb := cellsAt_lit wa ⟨q, 63⟩ 43
                    have hlb := hla.alloc (.cells #[.int .i64 q, .int .u8 (63 : Nat)] 43)
                    have hsb : wa.heap.size < (wa.alloc (.cells #[.int .i64 q, .int .u8 (63 : Nat)] 43)).heap.size := by simp
                    refine hK _ _ (fun _ => hqb) ?_
                    clear hK K hla
                    generalize wa.alloc (.cells #[.int .i64 q, .int .u8 (63 : Nat)] 43) = wb at *
                    try simp only [Act.put, List.setIfInBounds_toArray, List.set_cons_zero, List.set_cons_succ]
                    refine wpAnyL_one (i := 3) (o := { dst := some 114, op := Op.call { callee := Callee.builtin Builtin.append, args := #[Operand.tmp 111, Operand.tmp 113], argTypes := #[26, 26] }, type := 26, pos := "law.go:156", after := #[{ on := 0, ground := Ground.data }, { on := 2, ground := Ground.data }], guard := none }) (by kernel_rfl) rfl (by rfl) (fun K hK => ?_)
                    refine wp_append_wishes _ (.tmp 111) (.tmp 113) 26 43 i0 rfl Tryd.underlying26 hi0 hz0 hz1 hz2 W'.heap.size (.slice (some ⟨W'.heap.size, 0, none⟩) ([] : List Wish).length 0) [] rfl hlb wA wc t.wishes rfl (HTW.out.wishes.below hqb.1) HWN.out (by simp; omega) (by omega) ?_
                    intro L1 A1 c1 w3 hL1 hl3 hgr1 hge1
                    have hq3 := heldB_grown (B := W'.heap.size) (wr := W') (Nat.le_refl _) hqb hgr1 hge1
                    have hll1 : L1.length = t.wishes.length := by rw [hL1]; simp
                    have HL1 := Lib.hid hL1
                    have hl1a : L1.length ≤ 30 := by omega
                    have hc3 := cellsAt_grown hcb hgr1 (by omega) (by simp [Value.ownBlock]; omega)
                    clear hgr1 hge1 hL1 hll1
                    have hsz3 := hq3.1.size
                    refine hK _ _ (fun _ => hq3) ?_
                    clear hK K
                    try simp only [Act.put, List.setIfInBounds_toArray, List.set_cons_zero, List.set_cons_succ]
                    refine wpAnyL_one (i := 13) (o := { dst := some 124, op := Op.call { callee := Callee.builtin Builtin.append, args := #[Operand.tmp 114, Operand.tmp 123], argTypes := #[26, 26] }, type := 26, pos := "law.go:156", after := #[{ on := 3, ground := Ground.data }, { on := 12, ground := Ground.data }, { on := 3, ground := Ground.chain }], guard := none }) (by kernel_rfl) rfl (by rfl) (fun K hK => ?_)
                    refine wp_append_wish _ (.tmp 114) (.tmp 123) 26 43 i0 rfl Tryd.underlying26 hi0 hz0 hz1 hz2 W'.heap.size (.slice A1 L1.length c1) L1 rfl hl3 ⟨wa.heap.size, 0, none⟩ ⟨q, 63⟩ rfl hc3 (by omega) (by have := hq3.1.size; omega) ?_
                    intro L2 g2 c2 w5 hL2 hown2 hgr2 hge2 hg2 hgb2
                    have hq5 := heldB_grown (B := W'.heap.size) (wr := W') (Nat.le_refl _) hq3 hgr2 hge2
                    have HL2 := Lib.hid hL2
                    have hl2a : L2.length ≤ 31 := by rw [hL2]; simp; omega
                    clear hgr2 hge2 hL2 hl3 hc3
                    refine hK _ _ (fun _ => hq5) ?_
                    clear hK K
                    have x3 := (hq5.2 w2.heap.size 3 hMlt).trans y3
                    have f3 := (hq5.1.frozen (p := ⟨w2.heap.size, 3, none⟩) hMlt).trans hX3
                    try simp only [Act.put, List.setIfInBounds_toArray, List.set_cons_zero, List.set_cons_succ]
                    refine wpAnyL_take 20 (i := 14) (oi := { dst := some 125, op := Op.fieldAddr 30 (Operand.tmp 11) 1, type := 0, pos := "law.go:156", after := #[{ on := 0, ground := Ground.phase }, { on := 1, ground := Ground.phase }, { on := 2, ground := Ground.phase }, { on := 3, ground := Ground.phase }, { on := 4, ground := Ground.phase }, { on := 5, ground := Ground.phase }, { on := 6, ground := Ground.phase }, { on := 7, ground := Ground.phase }, { on := 8, ground := Ground.phase }, { on := 9, ground := Ground.phase }, { on := 10, ground := Ground.phase }, { on := 11, ground := Ground.phase }, { on := 12, ground := Ground.phase }, { on := 13, ground := Ground.phase }], guard := none }) (v := ?_) rfl (by kernel_rfl) (by kernel_rfl) (by kernel_rfl) (by kernel_rfl) (by kernel_rfl) (fun _ _ _ h => h) (.inl ⟨by rfl, ?_⟩) (by assumption) ?_
                    rotate_left
                    · intro w hSw; (try dsimp only at hSw); go_simp; try (with_reducible rfl)
                    try simp only [Act.put, List.setIfInBounds_toArray, List.set_cons_zero, List.set_cons_succ]
                    refine wpAnyL_one (i := 15) (o := { dst := none, op := Op.store 26 (Operand.tmp 125) (Operand.tmp 124), type := 0, pos := "law.go:156", after := #[{ on := 14, ground := Ground.data }, { on := 13, ground := Ground.data }, { on := 13, ground := Ground.chain }, { on := 0, ground := Ground.phase }, { on := 1, ground := Ground.phase }, { on := 2, ground := Ground.phase }, { on := 3, ground := Ground.phase }, { on := 4, ground := Ground.phase }, { on := 5, ground := Ground.phase }, { on := 6, ground := Ground.phase }, { on := 7, ground := Ground.phase }, { on := 8, ground := Ground.phase }, { on := 9, ground := Ground.phase }, { on := 10, ground := Ground.phase }, { on := 11, ground := Ground.phase }, { on := 12, ground := Ground.phase }, { on := 13, ground := Ground.phase }], guard := none }) (by kernel_rfl) rfl (by rfl) (fun K hK => ?_)
                    go_simp
                    refine hK _ _ (fun hne => absurd rfl hne) ?_
                    clear hK K
                    try simp only [Act.put, List.setIfInBounds_toArray, List.set_cons_zero, List.set_cons_succ]
                    refine wpAnyL_done (by kernel_rfl) ?_ _
                    refine NoPanic.normal ?_
                rotate_left 2
                focus
                  go_simp
                  have hqa := held_box W' (.cells #[.int .i64 q, .int .u8 (63 : Nat)] 43)
                  have hca := cellsAt_alloc_drew W' ⟨q, 63⟩ 43
                  have hsa : W'.heap.size < ((W'.alloc (.cells #[.int .i64 q, .int .u8 (63 : Nat)] 43)).drew).heap.size := by simp
                  refine hK _ _ (fun _ => hqa) ?_
                  clear hK K
                  generalize (W'.alloc (.cells #[.int .i64 q, .int .u8 (63 : Nat)] 43)).drew = wa at *
                  try simp only [Act.put, List.setIfInBounds_toArray, List.set_cons_zero, List.set_cons_succ]
                  refine wpAnyL_one (i := 0) (o := { dst := some 111, op := Op.buildSlice 26 0 #[], type := 26, pos := "law.go:156", after := #[], guard := none }) (by kernel_rfl) rfl (by rfl) (fun K hK => ?_)
                  go_simp
                  have hqb := heldB_alloc (Nat.le_refl _) hqa (.cells #[] 43)
                  have hcb := cellsAt_alloc hca hsa (.cells #[] 43)
                  have hlb := own_lit_wish3 (base := W'.heap.size) (e := 43) wa (Nat.le_of_lt hsa)
                  have hsb : wa.heap.size < (wa.alloc (.cells #[] 43)).heap.size := by simp
                  refine hK _ _ (fun _ => hqb) ?_
                  clear hK K hca
                  generalize wa.alloc (.cells #[] 43) = wb at *
                  try simp only [Act.put, List.setIfInBounds_toArray, List.set_cons_zero, List.set_cons_succ]
                  refine wpAnyL_one (i := 3) (o := { dst := some 114, op := Op.call { callee := Callee.builtin Builtin.append, args := #[Operand.tmp 111, Operand.tmp 113], argTypes := #[26, 26] }, type := 26, pos := "law.go:156", after := #[{ on := 0, ground := Ground.data }, { on := 2, ground := Ground.data }], guard := none }) (by kernel_rfl) rfl (by rfl) (fun K hK => ?_)
                  refine wp_append_wishes _ (.tmp 111) (.tmp 113) 26 43 i0 rfl Tryd.underlying26 hi0 hz0 hz1 hz2 W'.heap.size (.slice (some ⟨wa.heap.size, 0, none⟩) ([] : List Wish).length 0) [] rfl hlb wA wc t.wishes rfl (HTW.out.wishes.below hqb.1) HWN.out (by simp; omega) (by omega) ?_
                  intro L1 A1 c1 w3 hL1 hl3 hgr1 hge1
                  have hq3 := heldB_grown (B := W'.heap.size) (wr := W') (Nat.le_refl _) hqb hgr1 hge1
                  have hll1 : L1.length = t.wishes.length := by rw [hL1]; simp
                  have HL1 := Lib.hid hL1
                  have hl1a : L1.length ≤ 30 := by omega
                  have hc3 := cellsAt_grown hcb hgr1 (by omega) (by simp [Value.ownBlock]; omega)
                  clear hgr1 hge1 hL1 hll1
                  have hsz3 := hq3.1.size
                  refine hK _ _ (fun _ => hq3) ?_
                  clear hK K
                  try simp only [Act.put, List.setIfInBounds_toArray, List.set_cons_zero, List.set_cons_succ]
                  refine wpAnyL_one (i := 13) (o := { dst := some 124, op := Op.call { callee := Callee.builtin Builtin.append, args := #[Operand.tmp 114, Operand.tmp 123], argTypes := #[26, 26] }, type := 26, pos := "law.go:156", after := #[{ on := 3, ground := Ground.data }, { on := 12, ground := Ground.data }, { on := 3, ground := Ground.chain }], guard := none }) (by kernel_rfl) rfl (by rfl) (fun K hK => ?_)
                  refine wp_append_wish _ (.tmp 114) (.tmp 123) 26 43 i0 rfl Tryd.underlying26 hi0 hz0 hz1 hz2 W'.heap.size (.slice A1 L1.length c1) L1 rfl hl3 ⟨W'.heap.size, 0, none⟩ ⟨q, 63⟩ rfl hc3 (by omega) (by have := hq3.1.size; omega) ?_
                  intro L2 g2 c2 w5 hL2 hown2 hgr2 hge2 hg2 hgb2
                  have hq5 := heldB_grown (B := W'.heap.size) (wr := W') (Nat.le_refl _) hq3 hgr2 hge2
                  have HL2 := Lib.hid hL2
                  have hl2a : L2.length ≤ 31 := by rw [hL2]; simp; omega
                  clear hgr2 hge2 hL2 hl3 hc3
                  refine hK _ _ (fun _ => hq5) ?_
                  clear hK K
                  have x3 := (hq5.2 w2.heap.size 3 hMlt).trans y3
                  have f3 := (hq5.1.frozen (p := ⟨w2.heap.size, 3, none⟩) hMlt).trans hX3
                  try simp only [Act.put, List.setIfInBounds_toArray, List.set_cons_zero, List.set_cons_succ]
                  refine wpAnyL_take 20 (i := 14) (oi := { dst := some 125, op := Op.fieldAddr 30 (Operand.tmp 11) 1, type := 0, pos := "law.go:156", after := #[{ on := 0, ground := Ground.phase }, { on := 1, ground := Ground.phase }, { on := 2, ground := Ground.phase }, { on := 3, ground := Ground.phase }, { on := 4, ground := Ground.phase }, { on := 5, ground := Ground.phase }, { on := 6, ground := Ground.phase }, { on := 7, ground := Ground.phase }, { on := 8, ground := Ground.phase }, { on := 9, ground := Ground.phase }, { on := 10, ground := Ground.phase }, { on := 11, ground := Ground.phase }, { on := 12, ground := Ground.phase }, { on := 13, ground := Ground.phase }], guard := none }) (v := ?_) rfl (by kernel_rfl) (by kernel_rfl) (by kernel_rfl) (by kernel_rfl) (by kernel_rfl) (fun _ _ _ h => h) (.inl ⟨by rfl, ?_⟩) (by assumption) ?_
                  rotate_left
                  · intro w hSw; (try dsimp only at hSw); go_simp; try (with_reducible rfl)
                  try simp only [Act.put, List.setIfInBounds_toArray, List.set_cons_zero, List.set_cons_succ]
                  refine wpAnyL_one (i := 15) (o := { dst := none, op := Op.store 26 (Operand.tmp 125) (Operand.tmp 124), type := 0, pos := "law.go:156", after := #[{ on := 14, ground := Ground.data }, { on := 13, ground := Ground.data }, { on := 13, ground := Ground.chain }, { on := 0, ground := Ground.phase }, { on := 1, ground := Ground.phase }, { on := 2, ground := Ground.phase }, { on := 3, ground := Ground.phase }, { on := 4, ground := Ground.phase }, { on := 5, ground := Ground.phase }, { on := 6, ground := Ground.phase }, { on := 7, ground := Ground.phase }, { on := 8, ground := Ground.phase }, { on := 9, ground := Ground.phase }, { on := 10, ground := Ground.phase }, { on := 11, ground := Ground.phase }, { on := 12, ground := Ground.phase }, { on := 13, ground := Ground.phase }], guard := none }) (by kernel_rfl) rfl (by rfl) (fun K hK => ?_)
                  go_simp
                  refine hK _ _ (fun hne => absurd rfl hne) ?_
                  clear hK K
                  try simp only [Act.put, List.setIfInBounds_toArray, List.set_cons_zero, List.set_cons_succ]
                  refine wpAnyL_done (by kernel_rfl) ?_ _
                  refine NoPanic.normal ?_
                all_goals
                  have hX5 := (HXB.out.below hq5.1).setW (some ⟨g2, 0, none⟩) c2 L2
                  have hB5 : Below w2.heap.size w2 (w5.setCell ⟨w2.heap.size, 3, none⟩ (.slice (some ⟨g2, 0, none⟩) L2.length c2)) := (HBY.out.trans (hq5.1.mono HBY.out.size)).setCell (p := ⟨w2.heap.size, 3, none⟩) (by simp) _
                  have hR5 := rows_of_owns (owns_keep (w' := w5.setCell ⟨w2.heap.size, 3, none⟩ (.slice (some ⟨g2, 0, none⟩) L2.length c2)) hown2 (fun k hk => Below.heap_setCell _ _ _ _ (by have := (hown2.lt k hk).1; simp; omega))) rfl
                  have e5 : Hid (solveR (setWT t L2) = (r, 0)) := by
                    have : setWT t L2 = wishT t ⟨q, 63⟩ := by rw [HL2.out, HL1.out]; rfl
                    rw [this]
                    refine Lib.hid ?_
                    rw [wish_same H0.out (by omega) hqB]
                    exact HSR.out
                  have hT5 := (h2.below hB5).setW (by rw [HL2.out, HL1.out]; exact wish_wf_snoc h2.wf (by have := hqB; have := h2.cloth.clen; have := h2.cloth.ccap; unfold maxLen at this; unfold I64; omega) (by omega)) hR5.1 hR5.2.1 hR5.2.2
                  have hr5 := hr2.below hB5
                  clear x3 f3 hq5 hown2 hR5 hX3 hBlt hMlt y3 z1 z3
                  generalize w5.setCell ⟨w2.heap.size, 3, none⟩ (.slice (some ⟨g2, 0, none⟩) L2.length c2) = W5 at *
                  obtain ⟨hMlt, y0, y1, y2, y3, y4, y5, y6, y7, y8, y9, y10⟩ := id hX5
                  go_wp2_with fail
                  refine (dysolve_any hT5).mono ?_
                  rintro e w6 ⟨v6, rfl, hv6, hb6⟩
                  rw [e5.out] at hv6
                  simp only [e5.out]
                  obtain ⟨mA2, mc2, rfl, hm6⟩ := hv6
                  have hr6 := hr5.below hb6
                  have hB6 := hB5.trans (hb6.mono hB5.size)
                  go_wp2_with fail
                  refine (same_any hr6 hm6).mono ?_
                  rintro e w7 ⟨rfl, hb7⟩
                  have hB7 := hB6.trans (hb7.mono hB6.size)
                  go_wp2_with fail
                  refine (shown_any (hT2.below hB7)).mono ?_
                  rintro e w9 ⟨rfl, hb9⟩
                  have hB9 := hB2.trans ((hB7.trans (hb9.mono hB7.size)).mono hB2.size)
                  go_wp2_with fail
                  exact bodyPost_ret (by simp [results, Tryd.f7, go_sem]) rfl ⟨rfl, hB9⟩

        · have hv2 := hv2
          rw [hsr] at hv2
          simp only [hsr]
          obtain ⟨r, hr0⟩ : ∃ r : List Int, r = [] := ⟨_, rfl⟩
          rw [← hr0] at hv2 hsr
          obtain ⟨rA, rc, rfl, hr2⟩ := hv2
          have hrl0 : r.length ≤ 0 := by rw [hr0]; exact Nat.le_refl _
          have hki : ¬ ((0 : Int) < (r.length : Int)) := by omega
          have HSR := Lib.hid hsr
          clear hsr hr0
          obtain ⟨mA, mc, rfl, hm⟩ := hv3
          generalize (solveR (moreT t k n)).1 = m at *
          generalize (solveR (moreT t k n)).2 = me at *
          clear hm
          go_wp2_with fail
          refine wp_loop_rounds 1 ?_
          rw [rounds_succ]
          have hbZ := hbV
          have hMZ := hMo
          have hXZ := hXf
          clear hbV hMo hXf
          obtain ⟨wz, rfl⟩ : ∃ wz : World, wz = w4 := ⟨_, rfl⟩
          obtain ⟨hBlt, z0, z1, z2, z3, z4, z5, z6, z7, z8, z9, z10⟩ := hBo2.below hbZ
          obtain ⟨hMlt, y0, y1, y2, y3, y4, y5, y6, y7, y8, y9, y10⟩ := id hMZ
          by_cases hcr : t.cloth.crosses.length = 0
          · have hcrB : ((t.cloth.crosses.length : Int) == 0) = true := by simp [hcr]
            clear hcr
            go_wp2_with fail
            refine (shown_any (hT2.below hbZ)).mono ?_
            rintro e w9 ⟨rfl, hb9⟩
            have hB9 := hB2.trans ((hbZ.trans (hb9.mono hbZ.size)).mono hB2.size)
            go_wp2_with fail
            exact bodyPost_ret (by simp [results, Tryd.f7, go_sem]) rfl ⟨rfl, hB9⟩
          · have hcrB : ((t.cloth.crosses.length : Int) == 0) = false := by simp [hcr]
            have hcp : 0 < t.cloth.crosses.length := Nat.pos_of_ne_zero hcr
            clear hcr
            go_upto_region 20 with fail
            generalize hW : ((((((((((wz.setCell ⟨w2.heap.size, 0, none⟩ (.int .i64 t.cloth.threads)).setCell ⟨w2.heap.size, 1, none⟩ (.slice cA t.cloth.crosses.length cc)).setCell ⟨w2.heap.size, 2, none⟩ (.slice pA t.cloth.pins.length pc)).setCell ⟨w2.heap.size, 3, none⟩ (.slice wA t.wishes.length wc)).setCell ⟨w2.heap.size, 4, none⟩ (.slice uA t.unlike.length uc)).setCell ⟨w2.heap.size, 5, none⟩ (.int .i64 t.s0)).setCell ⟨w2.heap.size, 6, none⟩ (.int .i64 t.s1)).setCell ⟨w2.heap.size, 7, none⟩ (.int .i64 t.s2)).setCell ⟨w2.heap.size, 8, none⟩ (.int .i64 t.s3)).setCell ⟨w2.heap.size, 9, none⟩ (.int .i64 t.s4)).setCell ⟨w2.heap.size, 10, none⟩ (.int .i64 t.s5) = W' at *
            obtain ⟨hXb, hXg, hbY⟩ := box_put hMZ (Nat.le_refl _) hW
            have hX3 : W'.frozen? ⟨w2.heap.size, 3, none⟩ = false := (hXg 3).trans (hXZ 3)
            have hbY := hbZ.trans hbY
            clear hW hXg hMZ hXZ hbZ hMlt hBlt z0 z1 z2 z3 z4 z5 z6 z7 z8 z9 z10 y0 y1 y2 y3 y4 y5 y6 y7 y8 y9 y10
            obtain ⟨hBlt, _, z1, _, z3, _, _, _, _, _, _, _⟩ := hBo2.below hbY
            obtain ⟨hMlt, _, _, _, y3, _, _, _, _, _, _, _⟩ := id hXb
            have hTW := h2.below hbY
            have hXB := hXb
            clear hXb
            obtain ⟨i0, hi0, hz0, hz1, hz2⟩ := info_parts info_wish
            have hcpi : (0 : Int) < (t.cloth.crosses.length : Int) := by omega
            have hnil : t.cloth.crosses ≠ [] := fun e => by rw [e] at hcp; cases hcp
            have hwr : IntKind.i64.wrap (qn : Int) = (qn : Int) := IntWalk.i64_in _ (by omega)
            obtain ⟨q, hqd⟩ : ∃ q : Int, q = (qn : Int) % (t.cloth.crosses.length : Int) := ⟨_, rfl⟩
            have hqB : 0 ≤ q ∧ q < (t.cloth.crosses.length : Int) := by rw [hqd]; exact ⟨Int.emod_nonneg _ (by omega), Int.emod_lt_of_pos _ hcpi⟩
            have hqt : (IntKind.i64.wrap (qn : Int)).tmod (t.cloth.crosses.length : Int) = q := by rw [hwr, hqd, Int.tmod_eq_emod_of_nonneg (by omega)]
            clear hqd hwr
            have hwn30 : t.wishes.length < 30 := by omega
            have HXB := Lib.hid hXB
            have HBY := Lib.hid hbY
            have HTW := Lib.hid hTW
            clear hXB hbY hTW
            refine wp_region_noPanic ?_
            refine wp_region_L (S := (fun w' => Below W'.heap.size W' w' ∧ (∀ b o, b < W'.heap.size → w'.cell? ⟨b, o, none⟩ = W'.cell? ⟨b, o, none⟩))) (L := 15) (by kernel_rfl) ?_
            refine wpAnyL_take 20 (i := 1) (oi := { dst := some 112, op := Op.fieldAddr 30 (Operand.tmp 3) 1, type := 0, pos := "law.go:156", after := #[], guard := none }) (v := ?_) rfl (by kernel_rfl) (by kernel_rfl) (by kernel_rfl) (by kernel_rfl) (by kernel_rfl) (fun _ _ _ h => h) (.inl ⟨by rfl, ?_⟩) (held_drew W') ?_
            rotate_left
            · intro w hSw; (try dsimp only at hSw); go_simp; try (with_reducible rfl)
            try simp only [Act.put, List.setIfInBounds_toArray, List.set_cons_zero, List.set_cons_succ]
            refine wpAnyL_take 20 (i := 2) (oi := { dst := some 113, op := Op.load 26 (Operand.tmp 112), type := 26, pos := "law.go:156", after := #[{ on := 1, ground := Ground.data }], guard := none }) (v := ?_) rfl (by kernel_rfl) (by kernel_rfl) (by kernel_rfl) (by kernel_rfl) (by kernel_rfl) (fun _ _ _ h => h) (.inl ⟨by rfl, ?_⟩) (held_drew W') ?_
            rotate_left
            · intro w hSw; (try dsimp only at hSw); go_simp; try (with_reducible rfl)
            try simp only [Act.put, List.setIfInBounds_toArray, List.set_cons_zero, List.set_cons_succ]
            refine wpAnyL_take 20 (i := 4) (oi := { dst := some 115, op := Op.move (Operand.tmp 2), type := 47, pos := "law.go:156", after := #[], guard := none }) (v := ?_) rfl (by kernel_rfl) (by kernel_rfl) (by kernel_rfl) (by kernel_rfl) (by kernel_rfl) (fun _ _ _ h => h) (.inl ⟨by rfl, ?_⟩) (held_drew W') ?_
            rotate_left
            · intro w hSw; (try dsimp only at hSw); go_simp; try (with_reducible rfl)
            try simp only [Act.put, List.setIfInBounds_toArray, List.set_cons_zero, List.set_cons_succ]
            refine wpAnyL_take 20 (i := 5) (oi := { dst := some 116, op := Op.convert 47 3 (Operand.tmp 115), type := 3, pos := "law.go:156", after := #[{ on := 4, ground := Ground.data }], guard := none }) (v := ?_) rfl (by kernel_rfl) (by kernel_rfl) (by kernel_rfl) (by kernel_rfl) (by kernel_rfl) (fun _ _ _ h => h) (.inl ⟨by rfl, ?_⟩) (held_drew W') ?_
            rotate_left
            · intro w hSw; (try dsimp only at hSw); go_simp; try (with_reducible rfl)
            try simp only [Act.put, List.setIfInBounds_toArray, List.set_cons_zero, List.set_cons_succ]
            refine wpAnyL_take 20 (i := 6) (oi := { dst := some 117, op := Op.fieldAddr 30 (Operand.tmp 3) 0, type := 0, pos := "law.go:156", after := #[], guard := none }) (v := ?_) rfl (by kernel_rfl) (by kernel_rfl) (by kernel_rfl) (by kernel_rfl) (by kernel_rfl) (fun _ _ _ h => h) (.inl ⟨by rfl, ?_⟩) (held_drew W') ?_
            rotate_left
            · intro w hSw; (try dsimp only at hSw); go_simp; try (with_reducible rfl)
            try simp only [Act.put, List.setIfInBounds_toArray, List.set_cons_zero, List.set_cons_succ]
            refine wpAnyL_take 20 (i := 7) (oi := { dst := some 118, op := Op.fieldAddr 25 (Operand.tmp 117) 1, type := 0, pos := "law.go:156", after := #[{ on := 6, ground := Ground.data }], guard := none }) (v := ?_) rfl (by kernel_rfl) (by kernel_rfl) (by kernel_rfl) (by kernel_rfl) (by kernel_rfl) (fun _ _ _ h => h) (.inl ⟨by rfl, ?_⟩) (held_drew W') ?_
            rotate_left
            · intro w hSw; (try dsimp only at hSw); go_simp; try (with_reducible rfl)
            try simp only [Act.put, List.setIfInBounds_toArray, List.set_cons_zero, List.set_cons_succ]
            refine wpAnyL_take 20 (i := 8) (oi := { dst := some 119, op := Op.load 22 (Operand.tmp 118), type := 22, pos := "law.go:156", after := #[{ on := 7, ground := Ground.data }], guard := none }) (v := ?_) rfl (by kernel_rfl) (by kernel_rfl) (by kernel_rfl) (by kernel_rfl) (by kernel_rfl) (fun _ _ _ h => h) (.inl ⟨by rfl, ?_⟩) (held_drew W') ?_
            rotate_left
            · intro w hSw; (try dsimp only at hSw); go_simp; try (with_reducible rfl)
            try simp only [Act.put, List.setIfInBounds_toArray, List.set_cons_zero, List.set_cons_succ]
            refine wpAnyL_take 20 (i := 9) (oi := { dst := some 120, op := Op.call { callee := Callee.builtin Builtin.len, args := #[Operand.tmp 119], argTypes := #[22] }, type := 3, pos := "law.go:156", after := #[{ on := 8, ground := Ground.data }], guard := none }) (v := ?_) rfl (by kernel_rfl) (by kernel_rfl) (by kernel_rfl) (by kernel_rfl) (by kernel_rfl) (fun _ _ _ h => h) (.inl ⟨by rfl, ?_⟩) (held_drew W') ?_
            rotate_left
            · intro w hSw; (try dsimp only at hSw); go_simp; try (with_reducible rfl)
            try simp only [Act.put, List.setIfInBounds_toArray, List.set_cons_zero, List.set_cons_succ]
            refine wpAnyL_take 20 (i := 10) (oi := { dst := some 121, op := Op.binOp BinOp.rem 3 (Operand.tmp 116) (Operand.tmp 120) 3, type := 3, pos := "law.go:156", after := #[{ on := 5, ground := Ground.data }, { on := 9, ground := Ground.data }], guard := none }) (v := ?_) rfl (by kernel_rfl) (by kernel_rfl) (by kernel_rfl) (by kernel_rfl) (by kernel_rfl) (fun _ _ _ h => h) (.inl ⟨by rfl, ?_⟩) (held_drew W') ?_
            rotate_left
            · intro w hSw; (try dsimp only at hSw); go_simp; try (with_reducible rfl)
            try simp only [Act.put, List.setIfInBounds_toArray, List.set_cons_zero, List.set_cons_succ]
            refine wpAnyL_take 20 (i := 11) (oi := { dst := some 122, op := Op.build 43 #[(0, Operand.tmp 121), (1, Operand.const (Value.int IntKind.u8 63))], type := 43, pos := "law.go:156", after := #[{ on := 10, ground := Ground.data }], guard := none }) (v := ?_) rfl (by kernel_rfl) (by kernel_rfl) (by kernel_rfl) (by kernel_rfl) (by kernel_rfl) (fun _ _ _ h => h) (.inl ⟨by rfl, ?_⟩) (held_drew W') ?_
            rotate_left
            · intro w hSw; (try dsimp only at hSw); go_simp; try (with_reducible rfl)
            try simp only [Act.put, List.setIfInBounds_toArray, List.set_cons_zero, List.set_cons_succ]
            refine wpAnyL_two (i := 0) (k := 12) (o := { dst := some 111, op := Op.buildSlice 26 0 #[], type := 26, pos := "law.go:156", after := #[], guard := none }) (o' := { dst := some 123, op := Op.buildSlice 26 1 #[(0, Operand.tmp 122)], type := 26, pos := "law.go:156", after := #[{ on := 11, ground := Ground.data }], guard := none }) (by kernel_rfl) rfl rfl (by rfl) (by rfl) (fun K hK => ?_) (fun K hK => ?_)
            focus
              go_simp
              have hqa := held_box W' (.cells #[] 43)
              have hla := own_lit_wish2 (base := W'.heap.size) (e := 43) W' (Nat.le_refl _)
              have hsa : W'.heap.size < ((W'.alloc (.cells #[] 43)).drew).heap.size := by simp
              refine hK _ _ (fun _ => hqa) ?_
              clear hK K
              generalize (W'.alloc (.cells #[] 43)).drew = wa at *
              try simp only [Act.put, List.setIfInBounds_toArray, List.set_cons_zero, List.set_cons_succ]
              refine wpAnyL_two (i := 3) (k := 12) (o := { dst := some 114, op := Op.call { callee := Callee.builtin Builtin.append, args := #[Operand.tmp 111, Operand.tmp 113], argTypes := #[26, 26] }, type := 26, pos := "law.go:156", after := #[{ on := 0, ground := Ground.data }, { on := 2, ground := Ground.data }], guard := none }) (o' := { dst := some 123, op := Op.buildSlice 26 1 #[(0, Operand.tmp 122)], type := 26, pos := "law.go:156", after := #[{ on := 11, ground := Ground.data }], guard := none }) (by kernel_rfl) rfl rfl (by rfl) (by rfl) (fun K hK => ?_) (fun K hK => ?_)
              focus
                refine wp_append_wishes _ (.tmp 111) (.tmp 113) 26 43 i0 rfl Tryd.underlying26 hi0 hz0 hz1 hz2 W'.heap.size (.slice (some ⟨W'.heap.size, 0, none⟩) ([] : List Wish).length 0) [] rfl hla wA wc t.wishes rfl (HTW.out.wishes.below hqa.1) HWN.out (by simp; omega) (Nat.le_of_lt hsa) ?_
                intro L1 A1 c1 w3 hL1 hl3 hgr1 hge1
                have hq3 := heldB_grown (B := W'.heap.size) (wr := W') (Nat.le_refl _) hqa hgr1 hge1
                have hll1 : L1.length = t.wishes.length := by rw [hL1]; simp
                have HL1 := Lib.hid hL1
                have hl1a : L1.length ≤ 30 := by omega
                clear hgr1 hge1 hL1 hll1
                have hsz3 := hq3.1.size
                refine hK _ _ (fun _ => hq3) ?_
                clear hK K
                try simp only [Act.put, List.setIfInBounds_toArray, List.set_cons_zero, List.set_cons_succ]
                refine wpAnyL_one (i := 12) (o := { dst := some 123, op := Op.buildSlice 26 1 #[(0, Operand.tmp 122)], type := 26, pos := "law.go:156", after := #[{ on := 11, ground := Ground.data }], guard := none }) (by kernel_rfl) rfl (by rfl) (fun K hK => ?_)
                go_simp
                have hqb := heldB_alloc (Nat.le_refl _) hq3 (.cells #[.int .i64 q, .int .u8 (63 : Nat)] 43)
                have hcb := cellsAt_lit w3 ⟨q, 63⟩ 43
                have hlb := hl3.alloc (.cells #[.int .i64 q, .int .u8 (63 : Nat)] 43)
                refine hK _ _ (fun _ => hqb) ?_
                clear hK K hl3
                generalize w3.alloc (.cells #[.int .i64 q, .int .u8 (63 : Nat)] 43) = wb at *
                try simp only [Act.put, List.setIfInBounds_toArray, List.set_cons_zero, List.set_cons_succ]
                refine wpAnyL_one (i := 13) (o := { dst := some 124, op := Op.call { callee := Callee.builtin Builtin.append, args := #[Operand.tmp 114, Operand.tmp 123], argTypes := #[26, 26] }, type := 26, pos := "law.go:156", after := #[{ on := 3, ground := Ground.data }, { on := 12, ground := Ground.data }, { on := 3, ground := Ground.chain }], guard := none }) (by kernel_rfl) rfl (by rfl) (fun K hK => ?_)
                refine wp_append_wish _ (.tmp 114) (.tmp 123) 26 43 i0 rfl Tryd.underlying26 hi0 hz0 hz1 hz2 W'.heap.size (.slice A1 L1.length c1) L1 rfl hlb ⟨w3.heap.size, 0, none⟩ ⟨q, 63⟩ rfl hcb (by omega) (by have := hqb.1.size; omega) ?_
                intro L2 g2 c2 w5 hL2 hown2 hgr2 hge2 hg2 hgb2
                have hq5 := heldB_grown (B := W'.heap.size) (wr := W') (Nat.le_refl _) hqb hgr2 hge2
                have HL2 := Lib.hid hL2
                have hl2a : L2.length ≤ 31 := by rw [hL2]; simp; omega
                clear hgr2 hge2 hL2 hlb hcb
                refine hK _ _ (fun _ => hq5) ?_
                clear hK K
                have x3 := (hq5.2 w2.heap.size 3 hMlt).trans y3
                have f3 := (hq5.1.frozen (p := ⟨w2.heap.size, 3, none⟩) hMlt).trans hX3
                try simp only [Act.put, List.setIfInBounds_toArray, List.set_cons_zero, List.set_cons_succ]
                refine wpAnyL_take 20 (i := 14) (oi := { dst := some 125, op := Op.fieldAddr 30 (Operand.tmp 11) 1, type := 0, pos := "law.go:156", after := #[{ on := 0, ground := Ground.phase }, { on := 1, ground := Ground.phase }, { on := 2, ground := Ground.phase }, { on := 3, ground := Ground.phase }, { on := 4, ground := Ground.phase }, { on := 5, ground := Ground.phase }, { on := 6, ground := Ground.phase }, { on := 7, ground := Ground.phase }, { on := 8, ground := Ground.phase }, { on := 9, ground := Ground.phase }, { on := 10, ground := Ground.phase }, { on := 11, ground := Ground.phase }, { on := 12, ground := Ground.phase }, { on := 13, ground := Ground.phase }], guard := none }) (v := ?_) rfl (by kernel_rfl) (by kernel_rfl) (by kernel_rfl) (by kernel_rfl) (by kernel_rfl) (fun _ _ _ h => h) (.inl ⟨by rfl, ?_⟩) (by assumption) ?_
                rotate_left
                · intro w hSw; (try dsimp only at hSw); go_simp; try (with_reducible rfl)
                try simp only [Act.put, List.setIfInBounds_toArray, List.set_cons_zero, List.set_cons_succ]
                refine wpAnyL_one (i := 15) (o := { dst := none, op := Op.store 26 (Operand.tmp 125) (Operand.tmp 124), type := 0, pos := "law.go:156", after := #[{ on := 14, ground := Ground.data }, { on := 13, ground := Ground.data }, { on := 13, ground := Ground.chain }, { on := 0, ground := Ground.phase }, { on := 1, ground := Ground.phase }, { on := 2, ground := Ground.phase }, { on := 3, ground := Ground.phase }, { on := 4, ground := Ground.phase }, { on := 5, ground := Ground.phase }, { on := 6, ground := Ground.phase }, { on := 7, ground := Ground.phase }, { on := 8, ground := Ground.phase }, { on := 9, ground := Ground.phase }, { on := 10, ground := Ground.phase }, { on := 11, ground := Ground.phase }, { on := 12, ground := Ground.phase }, { on := 13, ground := Ground.phase }], guard := none }) (by kernel_rfl) rfl (by rfl) (fun K hK => ?_)
                go_simp
                refine hK _ _ (fun hne => absurd rfl hne) ?_
                clear hK K
                try simp only [Act.put, List.setIfInBounds_toArray, List.set_cons_zero, List.set_cons_succ]
                refine wpAnyL_done (by kernel_rfl) ?_ _
                refine NoPanic.normal ?_
              rotate_left 1
              focus
                go_simp
                have hqb := heldB_alloc (Nat.le_refl _) hqa (.cells #[.int .i64 q, .int .u8 (63 : Nat)] 43)
                have hcb := cellsAt_lit wa ⟨q, 63⟩ 43
                have hlb := hla.alloc (.cells #[.int .i64 q, .int .u8 (63 : Nat)] 43)
                have hsb : wa.heap.size < (wa.alloc (.cells #[.int .i64 q, .int .u8 (63 : Nat)] 43)).heap.size := by simp
                refine hK _ _ (fun _ => hqb) ?_
                clear hK K hla
                generalize wa.alloc (.cells #[.int .i64 q, .int .u8 (63 : Nat)] 43) = wb at *
                try simp only [Act.put, List.setIfInBounds_toArray, List.set_cons_zero, List.set_cons_succ]
                refine wpAnyL_one (i := 3) (o := { dst := some 114, op := Op.call { callee := Callee.builtin Builtin.append, args := #[Operand.tmp 111, Operand.tmp 113], argTypes := #[26, 26] }, type := 26, pos := "law.go:156", after := #[{ on := 0, ground := Ground.data }, { on := 2, ground := Ground.data }], guard := none }) (by kernel_rfl) rfl (by rfl) (fun K hK => ?_)
                refine wp_append_wishes _ (.tmp 111) (.tmp 113) 26 43 i0 rfl Tryd.underlying26 hi0 hz0 hz1 hz2 W'.heap.size (.slice (some ⟨W'.heap.size, 0, none⟩) ([] : List Wish).length 0) [] rfl hlb wA wc t.wishes rfl (HTW.out.wishes.below hqb.1) HWN.out (by simp; omega) (by omega) ?_
                intro L1 A1 c1 w3 hL1 hl3 hgr1 hge1
                have hq3 := heldB_grown (B := W'.heap.size) (wr := W') (Nat.le_refl _) hqb hgr1 hge1
                have hll1 : L1.length = t.wishes.length := by rw [hL1]; simp
                have HL1 := Lib.hid hL1
                have hl1a : L1.length ≤ 30 := by omega
                have hc3 := cellsAt_grown hcb hgr1 (by omega) (by simp [Value.ownBlock]; omega)
                clear hgr1 hge1 hL1 hll1
                have hsz3 := hq3.1.size
                refine hK _ _ (fun _ => hq3) ?_
                clear hK K
                try simp only [Act.put, List.setIfInBounds_toArray, List.set_cons_zero, List.set_cons_succ]
                refine wpAnyL_one (i := 13) (o := { dst := some 124, op := Op.call { callee := Callee.builtin Builtin.append, args := #[Operand.tmp 114, Operand.tmp 123], argTypes := #[26, 26] }, type := 26, pos := "law.go:156", after := #[{ on := 3, ground := Ground.data }, { on := 12, ground := Ground.data }, { on := 3, ground := Ground.chain }], guard := none }) (by kernel_rfl) rfl (by rfl) (fun K hK => ?_)
                refine wp_append_wish _ (.tmp 114) (.tmp 123) 26 43 i0 rfl Tryd.underlying26 hi0 hz0 hz1 hz2 W'.heap.size (.slice A1 L1.length c1) L1 rfl hl3 ⟨wa.heap.size, 0, none⟩ ⟨q, 63⟩ rfl hc3 (by omega) (by have := hq3.1.size; omega) ?_
                intro L2 g2 c2 w5 hL2 hown2 hgr2 hge2 hg2 hgb2
                have hq5 := heldB_grown (B := W'.heap.size) (wr := W') (Nat.le_refl _) hq3 hgr2 hge2
                have HL2 := Lib.hid hL2
                have hl2a : L2.length ≤ 31 := by rw [hL2]; simp; omega
                clear hgr2 hge2 hL2 hl3 hc3
                refine hK _ _ (fun _ => hq5) ?_
                clear hK K
                have x3 := (hq5.2 w2.heap.size 3 hMlt).trans y3
                have f3 := (hq5.1.frozen (p := ⟨w2.heap.size, 3, none⟩) hMlt).trans hX3
                try simp only [Act.put, List.setIfInBounds_toArray, List.set_cons_zero, List.set_cons_succ]
                refine wpAnyL_take 20 (i := 14) (oi := { dst := some 125, op := Op.fieldAddr 30 (Operand.tmp 11) 1, type := 0, pos := "law.go:156", after := #[{ on := 0, ground := Ground.phase }, { on := 1, ground := Ground.phase }, { on := 2, ground := Ground.phase }, { on := 3, ground := Ground.phase }, { on := 4, ground := Ground.phase }, { on := 5, ground := Ground.phase }, { on := 6, ground := Ground.phase }, { on := 7, ground := Ground.phase }, { on := 8, ground := Ground.phase }, { on := 9, ground := Ground.phase }, { on := 10, ground := Ground.phase }, { on := 11, ground := Ground.phase }, { on := 12, ground := Ground.phase }, { on := 13, ground := Ground.phase }], guard := none }) (v := ?_) rfl (by kernel_rfl) (by kernel_rfl) (by kernel_rfl) (by kernel_rfl) (by kernel_rfl) (fun _ _ _ h => h) (.inl ⟨by rfl, ?_⟩) (by assumption) ?_
                rotate_left
                · intro w hSw; (try dsimp only at hSw); go_simp; try (with_reducible rfl)
                try simp only [Act.put, List.setIfInBounds_toArray, List.set_cons_zero, List.set_cons_succ]
                refine wpAnyL_one (i := 15) (o := { dst := none, op := Op.store 26 (Operand.tmp 125) (Operand.tmp 124), type := 0, pos := "law.go:156", after := #[{ on := 14, ground := Ground.data }, { on := 13, ground := Ground.data }, { on := 13, ground := Ground.chain }, { on := 0, ground := Ground.phase }, { on := 1, ground := Ground.phase }, { on := 2, ground := Ground.phase }, { on := 3, ground := Ground.phase }, { on := 4, ground := Ground.phase }, { on := 5, ground := Ground.phase }, { on := 6, ground := Ground.phase }, { on := 7, ground := Ground.phase }, { on := 8, ground := Ground.phase }, { on := 9, ground := Ground.phase }, { on := 10, ground := Ground.phase }, { on := 11, ground := Ground.phase }, { on := 12, ground := Ground.phase }, { on := 13, ground := Ground.phase }], guard := none }) (by kernel_rfl) rfl (by rfl) (fun K hK => ?_)
                go_simp
                refine hK _ _ (fun hne => absurd rfl hne) ?_
                clear hK K
                try simp only [Act.put, List.setIfInBounds_toArray, List.set_cons_zero, List.set_cons_succ]
                refine wpAnyL_done (by kernel_rfl) ?_ _
                refine NoPanic.normal ?_
            rotate_left 2
            focus
              go_simp
              have hqa := held_box W' (.cells #[.int .i64 q, .int .u8 (63 : Nat)] 43)
              have hca := cellsAt_alloc_drew W' ⟨q, 63⟩ 43
              have hsa : W'.heap.size < ((W'.alloc (.cells #[.int .i64 q, .int .u8 (63 : Nat)] 43)).drew).heap.size := by simp
              refine hK _ _ (fun _ => hqa) ?_
              clear hK K
              generalize (W'.alloc (.cells #[.int .i64 q, .int .u8 (63 : Nat)] 43)).drew = wa at *
              try simp only [Act.put, List.setIfInBounds_toArray, List.set_cons_zero, List.set_cons_succ]
              refine wpAnyL_one (i := 0) (o := { dst := some 111, op := Op.buildSlice 26 0 #[], type := 26, pos := "law.go:156", after := #[], guard := none }) (by kernel_rfl) rfl (by rfl) (fun K hK => ?_)
              go_simp
              have hqb := heldB_alloc (Nat.le_refl _) hqa (.cells #[] 43)
              have hcb := cellsAt_alloc hca hsa (.cells #[] 43)
              have hlb := own_lit_wish3 (base := W'.heap.size) (e := 43) wa (Nat.le_of_lt hsa)
              have hsb : wa.heap.size < (wa.alloc (.cells #[] 43)).heap.size := by simp
              refine hK _ _ (fun _ => hqb) ?_
              clear hK K hca
              generalize wa.alloc (.cells #[] 43) = wb at *
              try simp only [Act.put, List.setIfInBounds_toArray, List.set_cons_zero, List.set_cons_succ]
              refine wpAnyL_one (i := 3) (o := { dst := some 114, op := Op.call { callee := Callee.builtin Builtin.append, args := #[Operand.tmp 111, Operand.tmp 113], argTypes := #[26, 26] }, type := 26, pos := "law.go:156", after := #[{ on := 0, ground := Ground.data }, { on := 2, ground := Ground.data }], guard := none }) (by kernel_rfl) rfl (by rfl) (fun K hK => ?_)
              refine wp_append_wishes _ (.tmp 111) (.tmp 113) 26 43 i0 rfl Tryd.underlying26 hi0 hz0 hz1 hz2 W'.heap.size (.slice (some ⟨wa.heap.size, 0, none⟩) ([] : List Wish).length 0) [] rfl hlb wA wc t.wishes rfl (HTW.out.wishes.below hqb.1) HWN.out (by simp; omega) (by omega) ?_
              intro L1 A1 c1 w3 hL1 hl3 hgr1 hge1
              have hq3 := heldB_grown (B := W'.heap.size) (wr := W') (Nat.le_refl _) hqb hgr1 hge1
              have hll1 : L1.length = t.wishes.length := by rw [hL1]; simp
              have HL1 := Lib.hid hL1
              have hl1a : L1.length ≤ 30 := by omega
              have hc3 := cellsAt_grown hcb hgr1 (by omega) (by simp [Value.ownBlock]; omega)
              clear hgr1 hge1 hL1 hll1
              have hsz3 := hq3.1.size
              refine hK _ _ (fun _ => hq3) ?_
              clear hK K
              try simp only [Act.put, List.setIfInBounds_toArray, List.set_cons_zero, List.set_cons_succ]
              refine wpAnyL_one (i := 13) (o := { dst := some 124, op := Op.call { callee := Callee.builtin Builtin.append, args := #[Operand.tmp 114, Operand.tmp 123], argTypes := #[26, 26] }, type := 26, pos := "law.go:156", after := #[{ on := 3, ground := Ground.data }, { on := 12, ground := Ground.data }, { on := 3, ground := Ground.chain }], guard := none }) (by kernel_rfl) rfl (by rfl) (fun K hK => ?_)
              refine wp_append_wish _ (.tmp 114) (.tmp 123) 26 43 i0 rfl Tryd.underlying26 hi0 hz0 hz1 hz2 W'.heap.size (.slice A1 L1.length c1) L1 rfl hl3 ⟨W'.heap.size, 0, none⟩ ⟨q, 63⟩ rfl hc3 (by omega) (by have := hq3.1.size; omega) ?_
              intro L2 g2 c2 w5 hL2 hown2 hgr2 hge2 hg2 hgb2
              have hq5 := heldB_grown (B := W'.heap.size) (wr := W') (Nat.le_refl _) hq3 hgr2 hge2
              have HL2 := Lib.hid hL2
              have hl2a : L2.length ≤ 31 := by rw [hL2]; simp; omega
              clear hgr2 hge2 hL2 hl3 hc3
              refine hK _ _ (fun _ => hq5) ?_
              clear hK K
              have x3 := (hq5.2 w2.heap.size 3 hMlt).trans y3
              have f3 := (hq5.1.frozen (p := ⟨w2.heap.size, 3, none⟩) hMlt).trans hX3
              try simp only [Act.put, List.setIfInBounds_toArray, List.set_cons_zero, List.set_cons_succ]
              refine wpAnyL_take 20 (i := 14) (oi := { dst := some 125, op := Op.fieldAddr 30 (Operand.tmp 11) 1, type := 0, pos := "law.go:156", after := #[{ on := 0, ground := Ground.phase }, { on := 1, ground := Ground.phase }, { on := 2, ground := Ground.phase }, { on := 3, ground := Ground.phase }, { on := 4, ground := Ground.phase }, { on := 5, ground := Ground.phase }, { on := 6, ground := Ground.phase }, { on := 7, ground := Ground.phase }, { on := 8, ground := Ground.phase }, { on := 9, ground := Ground.phase }, { on := 10, ground := Ground.phase }, { on := 11, ground := Ground.phase }, { on := 12, ground := Ground.phase }, { on := 13, ground := Ground.phase }], guard := none }) (v := ?_) rfl (by kernel_rfl) (by kernel_rfl) (by kernel_rfl) (by kernel_rfl) (by kernel_rfl) (fun _ _ _ h => h) (.inl ⟨by rfl, ?_⟩) (by assumption) ?_
              rotate_left
              · intro w hSw; (try dsimp only at hSw); go_simp; try (with_reducible rfl)
              try simp only [Act.put, List.setIfInBounds_toArray, List.set_cons_zero, List.set_cons_succ]
              refine wpAnyL_one (i := 15) (o := { dst := none, op := Op.store 26 (Operand.tmp 125) (Operand.tmp 124), type := 0, pos := "law.go:156", after := #[{ on := 14, ground := Ground.data }, { on := 13, ground := Ground.data }, { on := 13, ground := Ground.chain }, { on := 0, ground := Ground.phase }, { on := 1, ground := Ground.phase }, { on := 2, ground := Ground.phase }, { on := 3, ground := Ground.phase }, { on := 4, ground := Ground.phase }, { on := 5, ground := Ground.phase }, { on := 6, ground := Ground.phase }, { on := 7, ground := Ground.phase }, { on := 8, ground := Ground.phase }, { on := 9, ground := Ground.phase }, { on := 10, ground := Ground.phase }, { on := 11, ground := Ground.phase }, { on := 12, ground := Ground.phase }, { on := 13, ground := Ground.phase }], guard := none }) (by kernel_rfl) rfl (by rfl) (fun K hK => ?_)
              go_simp
              refine hK _ _ (fun hne => absurd rfl hne) ?_
              clear hK K
              try simp only [Act.put, List.setIfInBounds_toArray, List.set_cons_zero, List.set_cons_succ]
              refine wpAnyL_done (by kernel_rfl) ?_ _
              refine NoPanic.normal ?_
            all_goals
              have hX5 := (HXB.out.below hq5.1).setW (some ⟨g2, 0, none⟩) c2 L2
              have hB5 : Below w2.heap.size w2 (w5.setCell ⟨w2.heap.size, 3, none⟩ (.slice (some ⟨g2, 0, none⟩) L2.length c2)) := (HBY.out.trans (hq5.1.mono HBY.out.size)).setCell (p := ⟨w2.heap.size, 3, none⟩) (by simp) _
              have hR5 := rows_of_owns (owns_keep (w' := w5.setCell ⟨w2.heap.size, 3, none⟩ (.slice (some ⟨g2, 0, none⟩) L2.length c2)) hown2 (fun k hk => Below.heap_setCell _ _ _ _ (by have := (hown2.lt k hk).1; simp; omega))) rfl
              have e5 : Hid (solveR (setWT t L2) = (r, 4)) := by
                have : setWT t L2 = wishT t ⟨q, 63⟩ := by rw [HL2.out, HL1.out]; rfl
                rw [this]
                refine Lib.hid ?_
                rw [wish_same H0.out (by omega) hqB]
                exact HSR.out
              have hT5 := (h2.below hB5).setW (by rw [HL2.out, HL1.out]; exact wish_wf_snoc h2.wf (by have := hqB; have := h2.cloth.clen; have := h2.cloth.ccap; unfold maxLen at this; unfold I64; omega) (by omega)) hR5.1 hR5.2.1 hR5.2.2
              have hr5 := hr2.below hB5
              clear x3 f3 hq5 hown2 hR5 hX3 hBlt hMlt y3 z1 z3
              generalize w5.setCell ⟨w2.heap.size, 3, none⟩ (.slice (some ⟨g2, 0, none⟩) L2.length c2) = W5 at *
              obtain ⟨hMlt, y0, y1, y2, y3, y4, y5, y6, y7, y8, y9, y10⟩ := id hX5
              go_wp2_with fail
              refine (dysolve_any hT5).mono ?_
              rintro e w6 ⟨v6, rfl, hv6, hb6⟩
              rw [e5.out] at hv6
              simp only [e5.out]
              obtain ⟨mA2, mc2, rfl, hm6⟩ := hv6
              have hr6 := hr5.below hb6
              have hB6 := hB5.trans (hb6.mono hB5.size)
              go_wp2_with fail
              refine (same_any hr6 hm6).mono ?_
              rintro e w7 ⟨rfl, hb7⟩
              have hB7 := hB6.trans (hb7.mono hB6.size)
              go_wp2_with fail
              refine (shown_any (hT2.below hB7)).mono ?_
              rintro e w9 ⟨rfl, hb9⟩
              have hB9 := hB2.trans ((hB7.trans (hb9.mono hB7.size)).mono hB2.size)
              go_wp2_with fail
              exact bodyPost_ret (by simp [results, Tryd.f7, go_sem]) rfl ⟨rfl, hB9⟩

      · have hd0 : (taskB t != 0) = true := by simpa using h0
        generalize taskB t = tb at *
        clear h0
        go_wp2_with fail
        refine (shown_any hT).mono ?_
        rintro e w9 ⟨rfl, hb9⟩
        have hB := hB.trans (hb9.mono hB.size)
        go_wp2_with fail
        exact bodyPost_ret (by simp [results, Tryd.f7, go_sem]) rfl ⟨rfl, hB⟩
end Go.Proofs.YtegbbkmppphddaaDoor
