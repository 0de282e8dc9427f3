/- The law's first question: are a few results as the document has them. -/
import Derived.Test.YtegbbkmppphddaaDoorExample
import Derived.Test.YtegbbkmppphddaaDoorClash
import Derived.Test.YtegbbkmppphddaaDoorSolve
import Derived.Test.YtegbbkmppphddaaDoorRefMeets
set_option linter.unusedVariables false
set_option linter.unusedSimpArgs false
namespace Go.Proofs.YtegbbkmppphddaaDoor
open Go.RowKit

theorem shown_1 : solveR (exTask []) = ([0, 0, 1, 1], 0) := by decide +kernel
theorem shown_2 : solveR (exTask [⟨0, 2⟩]) = ([0, 1, 0, 1], 0) := by decide +kernel
def ws4 : List Wish := [⟨0, 1⟩, ⟨3, 2⟩, ⟨1, 2⟩, ⟨2, 2⟩]
theorem shown_3 : (solveR (exTask ws4)).2 = 4 := by decide +kernel
theorem shown_4 : clashR (exTask ws4) = ([1, 2, 3], 0) := by decide +kernel

/-- A literal's rows, in a block of its own. -/
theorem rows_lit {α : Type} (f : α → List Value) (sz : Nat) (hf : ∀ x, (f x).length = sz) (w : World) (ty : TypeId) (l : List α) {cs : Array Value} (hcs : cs = (l.flatMap f).toArray) : Rows (w.alloc (.cells cs ty)) (some ⟨w.heap.size, 0, none⟩) sz (l.map f) := by
  refine .inr ⟨w.heap.size, 0, rfl, by simp, fun i r hr j v hv => ?_⟩
  have := flat_get f sz hf l i r hr j v hv
  subst hcs
  simp [this]
theorem lit_wishes (w : World) (ty : TypeId) (l : List Wish) {cs : Array Value} (hcs : cs = (l.flatMap Wish.cells).toArray) (hl : l.length ≤ 100) (hw : ∀ x ∈ l, x.wf) : WishesRd (w.alloc (.cells cs ty)) (some ⟨w.heap.size, 0, none⟩) l.length l :=
  ⟨rows_lit _ 2 (fun _ => rfl) w ty l hcs, Nat.le_refl _, by unfold maxLen; omega, hw⟩
theorem lit_ints (w : World) (ty : TypeId) (l : List Int) {cs : Array Value} (hcs : cs = (l.flatMap intCells).toArray) (hl : l.length ≤ 100) (hw : ∀ x ∈ l, I64 x) : IntsRd (w.alloc (.cells cs ty)) (some ⟨w.heap.size, 0, none⟩) l.length l :=
  ⟨rows_lit _ 1 (fun _ => rfl) w ty l hcs, Nat.le_refl _, by simp, by unfold maxLen; omega, hw⟩
instance (x : Int) : Decidable (I64 x) := by unfold I64; infer_instance
instance (x : Wish) : Decidable x.wf := by unfold Wish.wf; infer_instance

set_option maxRecDepth 100000 in
set_option maxHeartbeats 8000000 in
theorem shown_any {w : World} (hT : TabW w) :
    Calls Tryd.prog 10 #[] w fun e w' => e = .returned (.bool true) ∧ Below w.heap.size w w' := by
  go_enter Tryd.func10, Tryd.ntmps10
  go_wp2_with fail
  refine (example_any (l := []) ⟨.inl rfl, Nat.le_refl _, by unfold maxLen; decide, by simp⟩).mono ?_
  rintro e w1 ⟨cA, cc, pA, pc, rfl, hT1, hb1⟩
  go_wp2_with fail
  refine (dysolve_any hT1).mono ?_
  rintro e w2 ⟨v, rfl, hv, hb2⟩
  rw [shown_1] at hv
  simp only [shown_1]
  obtain ⟨aA, ac, rfl, hI1⟩ := hv
  have hB2 := hb1.trans (hb2.mono hb1.size)
  clear hT1 hb1 hb2
  go_wp2_with fail
  refine (example_any (l := [⟨0, 2⟩]) (lit_wishes w2 _ [⟨0, 2⟩] rfl (by decide) (by decide))).mono ?_
  rintro e w3 ⟨cA, cc, pA, pc, rfl, hT3, hb3⟩
  go_wp2_with fail
  refine (dysolve_any hT3).mono ?_
  rintro e w4 ⟨v, rfl, hv, hb4⟩
  rw [shown_2] at hv
  simp only [shown_2]
  obtain ⟨bA, bc, rfl, hI2⟩ := hv
  have hbx := (below_box _).trans (hb3.mono (by simp))
  have hb24 := hbx.trans (hb4.mono hbx.size)
  have hI1 := hI1.below hb24
  have hB4 := hB2.trans (hb24.mono hB2.size)
  clear hT3 hb3 hb4 hbx hb24 hB2
  go_wp2_with fail
  refine (example_any (l := ws4) (lit_wishes w4 _ ws4 rfl (by decide) (by decide))).mono ?_
  rintro e w5 ⟨cA, cc, pA, pc, rfl, hT5, hb5⟩
  have hbx := (below_box _).trans (hb5.mono (by simp))
  have hI1 := hI1.below hbx
  have hI2 := hI2.below hbx
  have hB5 := hB4.trans (hbx.mono hB4.size)
  clear hb5 hbx hB4
  go_wp2_with fail
  have hbx := below_box (w := w5) (.cells #[.int .i64 (exTask ws4).cloth.threads, .slice cA (exTask ws4).cloth.crosses.length cc, .slice pA (exTask ws4).cloth.pins.length pc, .slice (some ⟨w4.heap.size, 0, none⟩) (exTask ws4).wishes.length ws4.length, .slice none (exTask ws4).unlike.length 0, .int .i64 (exTask ws4).s0, .int .i64 (exTask ws4).s1, .int .i64 (exTask ws4).s2, .int .i64 (exTask ws4).s3, .int .i64 (exTask ws4).s4, .int .i64 (exTask ws4).s5] 30)
  refine (dysolve_any (hT5.below hbx)).mono ?_
  rintro e w6 ⟨v, rfl, -, hb6⟩
  simp only [shown_3]
  have hb56 := hbx.trans (hb6.mono (by simp))
  have hI1 := hI1.below hb56
  have hI2 := hI2.below hb56
  have hT7 := hT5.below hb56
  have hB6 := hB5.trans (hb56.mono hB5.size)
  have z : ∀ o v, (w5.alloc (.cells #[.int .i64 (exTask ws4).cloth.threads, .slice cA (exTask ws4).cloth.crosses.length cc, .slice pA (exTask ws4).cloth.pins.length pc, .slice (some ⟨w4.heap.size, 0, none⟩) (exTask ws4).wishes.length ws4.length, .slice none (exTask ws4).unlike.length 0, .int .i64 (exTask ws4).s0, .int .i64 (exTask ws4).s1, .int .i64 (exTask ws4).s2, .int .i64 (exTask ws4).s3, .int .i64 (exTask ws4).s4, .int .i64 (exTask ws4).s5] 30)).cell? ⟨w5.heap.size, o, none⟩ = some v → w6.cell? ⟨w5.heap.size, o, none⟩ = some v := fun o v e => (hb6.cell (p := ⟨w5.heap.size, o, none⟩) (by simp)).trans e
  have z0 := z 0 _ (by simp; rfl)
  have z1 := z 1 _ (by simp; rfl)
  have z2 := z 2 _ (by simp; rfl)
  have z3 := z 3 _ (by simp; rfl)
  have z4 := z 4 _ (by simp; rfl)
  have z5 := z 5 _ (by simp; rfl)
  have z6 := z 6 _ (by simp; rfl)
  have z7 := z 7 _ (by simp; rfl)
  have z8 := z 8 _ (by simp; rfl)
  have z9 := z 9 _ (by simp; rfl)
  have z10 := z 10 _ (by simp; rfl)
  clear z hb6 hb56 hbx hT5 hB5
  go_wp2_with fail
  refine (dyclash_any hT7 (hT.below hB6)).mono ?_
  rintro e w7 ⟨v, rfl, hv, hb7⟩
  rw [shown_4] at hv
  simp only [shown_4]
  obtain ⟨gA, gc, rfl, hI3⟩ := hv
  have hI1 := hI1.below hb7
  have hI2 := hI2.below hb7
  have hB7 := hB6.trans (hb7.mono hB6.size)
  clear hT7 hb7 hB6 z0 z1 z2 z3 z4 z5 z6 z7 z8 z9 z10
  go_wp2_with fail
  refine (same_any (hI1.below (below_box _)) (lit_ints _ _ [0, 0, 1, 1] rfl (by decide) (by decide))).mono ?_
  rintro e w8 ⟨rfl, hb8⟩
  have hbx := (below_box _).trans (hb8.mono (by simp))
  have hI2 := hI2.below hbx
  have hI3 := hI3.below hbx
  have hB8 := hB7.trans (hbx.mono hB7.size)
  clear hb8 hbx hI1 hB7
  simp only [decide_true]
  go_wp2_with fail
  refine (same_any (hI2.below (below_box _)) (lit_ints _ _ [0, 1, 0, 1] rfl (by decide) (by decide))).mono ?_
  rintro e w9 ⟨rfl, hb9⟩
  have hbx := (below_box _).trans (hb9.mono (by simp))
  have hI3 := hI3.below hbx
  have hB9 := hB8.trans (hbx.mono hB8.size)
  clear hb9 hbx hI2 hB8
  simp only [decide_true]
  go_wp2_with fail
  refine (same_any (hI3.below (below_box _)) (lit_ints _ _ [1, 2, 3] rfl (by decide) (by decide))).mono ?_
  rintro e w10 ⟨rfl, hb10⟩
  have hbx := (below_box _).trans (hb10.mono (by simp))
  have hB10 := hB9.trans (hbx.mono hB9.size)
  clear hb10 hbx hI3 hB9
  simp only [decide_true]
  go_wp2_with fail
  exact bodyPost_ret (by simp [results, Tryd.f10, go_sem]) rfl ⟨rfl, hB10⟩
end Go.Proofs.YtegbbkmppphddaaDoor
