/- The laws DyeingSolves and DyeingClash, for every task. -/
import Derived.Test.YtegbbkmppphddaaDoorShown
import Derived.Test.YtegbbkmppphddaaDoorRefClash3
import Derived.Test.YtegbbkmppphddaaDoorRefA
set_option linter.unusedVariables false
set_option linter.unusedSimpArgs false
namespace Go.Proofs.YtegbbkmppphddaaDoor
open Go.RowKit

/-- A task that lies in a block. -/
structure TaskBox (w : World) (B : Nat) (cA : Option Addr) (cc : Nat) (pA : Option Addr) (pc : Nat) (wA : Option Addr) (wc : Nat) (uA : Option Addr) (uc : Nat) (t : Task) : Prop where
  lt : B < w.heap.size
  z0 : w.cell? ⟨B, 0, none⟩ = some (.int .i64 t.cloth.threads)
  z1 : w.cell? ⟨B, 1, none⟩ = some (.slice cA t.cloth.crosses.length cc)
  z2 : w.cell? ⟨B, 2, none⟩ = some (.slice pA t.cloth.pins.length pc)
  z3 : w.cell? ⟨B, 3, none⟩ = some (.slice wA t.wishes.length wc)
  z4 : w.cell? ⟨B, 4, none⟩ = some (.slice uA t.unlike.length uc)
  z5 : w.cell? ⟨B, 5, none⟩ = some (.int .i64 t.s0)
  z6 : w.cell? ⟨B, 6, none⟩ = some (.int .i64 t.s1)
  z7 : w.cell? ⟨B, 7, none⟩ = some (.int .i64 t.s2)
  z8 : w.cell? ⟨B, 8, none⟩ = some (.int .i64 t.s3)
  z9 : w.cell? ⟨B, 9, none⟩ = some (.int .i64 t.s4)
  z10 : w.cell? ⟨B, 10, none⟩ = some (.int .i64 t.s5)
theorem TaskBox.below {w w' : World} {B : Nat} {cA : Option Addr} {cc : Nat} {pA : Option Addr} {pc : Nat} {wA : Option Addr} {wc : Nat} {uA : Option Addr} {uc : Nat} {t : Task} (h : TaskBox w B cA cc pA pc wA wc uA uc t) (hb : Below w.heap.size w w') : TaskBox w' B cA cc pA pc wA wc uA uc t :=
  have k : ∀ o, w'.cell? ⟨B, o, none⟩ = w.cell? ⟨B, o, none⟩ := fun o => hb.cell (p := ⟨B, o, none⟩) h.lt
  ⟨Nat.lt_of_lt_of_le h.lt hb.size, (k 0).trans h.z0, (k 1).trans h.z1, (k 2).trans h.z2, (k 3).trans h.z3, (k 4).trans h.z4, (k 5).trans h.z5, (k 6).trans h.z6, (k 7).trans h.z7, (k 8).trans h.z8, (k 9).trans h.z9, (k 10).trans h.z10⟩
theorem taskBox_box (w : World) (cA : Option Addr) (cc : Nat) (pA : Option Addr) (pc : Nat) (wA : Option Addr) (wc : Nat) (uA : Option Addr) (uc : Nat) (t : Task) (ty : TypeId) :
    TaskBox (w.alloc (.cells #[.int .i64 t.cloth.threads, .slice cA t.cloth.crosses.length cc, .slice pA t.cloth.pins.length pc, .slice wA t.wishes.length wc, .slice uA t.unlike.length uc, .int .i64 t.s0, .int .i64 t.s1, .int .i64 t.s2, .int .i64 t.s3, .int .i64 t.s4, .int .i64 t.s5] ty)) w.heap.size cA cc pA pc wA wc uA uc t := by
  constructor <;> simp

set_option maxRecDepth 100000 in
set_option maxHeartbeats 8000000 in
theorem law_solves {w : World} {cA : Option Addr} {cc : Nat} {pA : Option Addr} {pc : Nat} {wA : Option Addr} {wc : Nat} {uA : Option Addr} {uc : Nat} {t : Task} (h : TaskRd w cA cc pA pc wA wc uA uc t) (hT : TabW w) :
    Calls Tryd.prog 3 #[taskVal cA cc pA pc wA wc uA uc t] w fun e w' => e = .returned (.bool true) ∧ Below w.heap.size w w' := by
  go_enter Tryd.func3, Tryd.ntmps3
  go_wp2_with fail
  have hbx := below_box (w := w) (.cells #[.int .i64 t.cloth.threads, .slice cA t.cloth.crosses.length cc, .slice pA t.cloth.pins.length pc, .slice wA t.wishes.length wc, .slice uA t.unlike.length uc, .int .i64 t.s0, .int .i64 t.s1, .int .i64 t.s2, .int .i64 t.s3, .int .i64 t.s4, .int .i64 t.s5] 30)
  have hBo := taskBox_box w cA cc pA pc wA wc uA uc t 30
  have h := h.below hbx
  have hT := hT.below hbx
  refine (far_any h).mono ?_
  rintro e w1 ⟨⟨b, rfl⟩, hb1⟩
  have hBo := hBo.below hb1
  have h := h.below hb1
  have hT := hT.below hb1
  have hB := hbx.trans (hb1.mono hbx.size)
  have hwl := h.wlen
  have hwm := h.wcap
  unfold maxLen at hwm
  clear hb1 hbx
  cases b
  case true =>
    go_wp2_with fail
    refine (shown_any hT).mono ?_
    rintro e w2 ⟨rfl, hb2⟩
    have hB := hB.trans (hb2.mono hB.size)
    go_wp2_with fail
    exact bodyPost_ret (by simp [results, Tryd.f3, go_sem]) rfl ⟨rfl, hB⟩
  case false =>
    obtain ⟨-, z0, z1, z2, z3, z4, z5, z6, z7, z8, z9, z10⟩ := id hBo
    go_wp2_with fail
    refine (dysolve_any h).mono ?_
    rintro e w2 ⟨v, rfl, hv, hb2⟩
    have hBo := hBo.below hb2
    have h := h.below hb2
    have hT := hT.below hb2
    have hB := hB.trans (hb2.mono hB.size)
    clear hb2 z0 z1 z2 z3 z4 z5 z6 z7 z8 z9 z10
    obtain ⟨-, z0, z1, z2, z3, z4, z5, z6, z7, z8, z9, z10⟩ := id hBo
    go_wp2_with fail
    refine (refSolve_any h).mono ?_
    rintro e w3 ⟨v2, rfl, hv2, hb3⟩
    have hv := hv.below hb3
    have hT := hT.below hb3
    have hB := hB.trans (hb3.mono hB.size)
    clear hb3 z0 z1 z2 z3 z4 z5 z6 z7 z8 z9 z10 hBo h
    obtain ⟨A1, c1, rfl, hI1⟩ := hv
    obtain ⟨A2, c2, rfl, hI2⟩ := hv2
    go_wp2_with fail
    refine (same_any hI1 hI2).mono ?_
    rintro e w4 ⟨rfl, hb4⟩
    have hT := hT.below hb4
    have hB := hB.trans (hb4.mono hB.size)
    simp only [decide_true]
    clear hI1 hI2 hb4
    go_wp2_with fail
    refine (shown_any hT).mono ?_
    rintro e w5 ⟨rfl, hb5⟩
    have hB := hB.trans (hb5.mono hB.size)
    go_wp2_with fail
    exact bodyPost_ret (by simp [results, Tryd.f3, go_sem]) rfl ⟨rfl, hB⟩

set_option maxRecDepth 100000 in
set_option maxHeartbeats 8000000 in
theorem law_clash {w : World} {cA : Option Addr} {cc : Nat} {pA : Option Addr} {pc : Nat} {wA : Option Addr} {wc : Nat} {uA : Option Addr} {uc : Nat} {t : Task} (h : TaskRd w cA cc pA pc wA wc uA uc t) (hT : TabW w) :
    Calls Tryd.prog 4 #[taskVal cA cc pA pc wA wc uA uc t] w fun e w' => e = .returned (.bool true) ∧ Below w.heap.size w w' := by
  go_enter Tryd.func4, Tryd.ntmps4
  go_wp2_with fail
  have hbx := below_box (w := w) (.cells #[.int .i64 t.cloth.threads, .slice cA t.cloth.crosses.length cc, .slice pA t.cloth.pins.length pc, .slice wA t.wishes.length wc, .slice uA t.unlike.length uc, .int .i64 t.s0, .int .i64 t.s1, .int .i64 t.s2, .int .i64 t.s3, .int .i64 t.s4, .int .i64 t.s5] 30)
  have hBo := taskBox_box w cA cc pA pc wA wc uA uc t 30
  have h := h.below hbx
  have hT := hT.below hbx
  refine (far_any h).mono ?_
  rintro e w1 ⟨⟨b, rfl⟩, hb1⟩
  have hBo := hBo.below hb1
  have h := h.below hb1
  have hT := hT.below hb1
  have hB := hbx.trans (hb1.mono hbx.size)
  have hwl := h.wlen
  have hwm := h.wcap
  unfold maxLen at hwm
  clear hb1 hbx
  obtain ⟨-, z0, z1, z2, z3, z4, z5, z6, z7, z8, z9, z10⟩ := id hBo
  cases b
  case true =>
    go_wp2_with fail
    refine (shown_any hT).mono ?_
    rintro e w2 ⟨rfl, hb2⟩
    have hB := hB.trans (hb2.mono hB.size)
    go_wp2_with fail
    exact bodyPost_ret (by simp [results, Tryd.f4, go_sem]) rfl ⟨rfl, hB⟩
  case false =>
    by_cases h4 : (4 : Int) < (t.wishes.length : Int)
    · by_cases h10 : (t.wishes.length : Int) ≤ 10
      · go_wp2_with fail
        refine (shown_any hT).mono ?_
        rintro e w2 ⟨rfl, hb2⟩
        have hB := hB.trans (hb2.mono hB.size)
        go_wp2_with fail
        exact bodyPost_ret (by simp [results, Tryd.f4, go_sem]) rfl ⟨rfl, hB⟩
      · go_wp2_with fail
        refine (dyclash_any h hT).mono ?_
        rintro e w2 ⟨v, rfl, hv, hb2⟩
        have hBo := hBo.below hb2
        have h := h.below hb2
        have hT := hT.below hb2
        have hB := hB.trans (hb2.mono hB.size)
        clear hb2 z0 z1 z2 z3 z4 z5 z6 z7 z8 z9 z10
        obtain ⟨-, z0, z1, z2, z3, z4, z5, z6, z7, z8, z9, z10⟩ := id hBo
        go_wp2_with fail
        refine (refClash_any h).mono ?_
        rintro e w3 ⟨v2, rfl, hv2, hb3⟩
        have hv := hv.below hb3
        have hT := hT.below hb3
        have hB := hB.trans (hb3.mono hB.size)
        clear hb3 z0 z1 z2 z3 z4 z5 z6 z7 z8 z9 z10 hBo h
        obtain ⟨A1, c1, rfl, hI1⟩ := hv
        obtain ⟨A2, c2, rfl, hI2⟩ := hv2
        go_wp2_with fail
        refine (same_any hI1 hI2).mono ?_
        rintro e w4 ⟨rfl, hb4⟩
        have hT := hT.below hb4
        have hB := hB.trans (hb4.mono hB.size)
        simp only [decide_true]
        clear hI1 hI2 hb4
        go_wp2_with fail
        refine (shown_any hT).mono ?_
        rintro e w5 ⟨rfl, hb5⟩
        have hB := hB.trans (hb5.mono hB.size)
        go_wp2_with fail
        exact bodyPost_ret (by simp [results, Tryd.f4, go_sem]) rfl ⟨rfl, hB⟩
    · go_wp2_with fail
      refine (dyclash_any h hT).mono ?_
      rintro e w2 ⟨v, rfl, hv, hb2⟩
      have hBo := hBo.below hb2
      have h := h.below hb2
      have hT := hT.below hb2
      have hB := hB.trans (hb2.mono hB.size)
      clear hb2 z0 z1 z2 z3 z4 z5 z6 z7 z8 z9 z10
      obtain ⟨-, z0, z1, z2, z3, z4, z5, z6, z7, z8, z9, z10⟩ := id hBo
      go_wp2_with fail
      refine (refClash_any h).mono ?_
      rintro e w3 ⟨v2, rfl, hv2, hb3⟩
      have hv := hv.below hb3
      have hT := hT.below hb3
      have hB := hB.trans (hb3.mono hB.size)
      clear hb3 z0 z1 z2 z3 z4 z5 z6 z7 z8 z9 z10 hBo h
      obtain ⟨A1, c1, rfl, hI1⟩ := hv
      obtain ⟨A2, c2, rfl, hI2⟩ := hv2
      go_wp2_with fail
      refine (same_any hI1 hI2).mono ?_
      rintro e w4 ⟨rfl, hb4⟩
      have hT := hT.below hb4
      have hB := hB.trans (hb4.mono hB.size)
      simp only [decide_true]
      clear hI1 hI2 hb4
      go_wp2_with fail
      refine (shown_any hT).mono ?_
      rintro e w5 ⟨rfl, hb5⟩
      have hB := hB.trans (hb5.mono hB.size)
      go_wp2_with fail
      exact bodyPost_ret (by simp [results, Tryd.f4, go_sem]) rfl ⟨rfl, hB⟩
end Go.Proofs.YtegbbkmppphddaaDoor
