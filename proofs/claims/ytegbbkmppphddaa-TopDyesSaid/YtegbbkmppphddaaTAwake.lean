/- The top's first question: one sheet is dyed as the document has it. -/
import Derived.Test.YtegbbkmppphddaaTSame
import Derived.Test.YtegbbkmppphddaaTMake
import Derived.Test.YtegbbkmppphddaaTCol
import Derived.Test.YtegbbkmppphddaaSolveN
set_option linter.unusedVariables false
set_option linter.unusedSimpArgs false
namespace Go.Proofs.Ytegbbkmppphddaa
open Go.RowKit

deriving instance DecidableEq for Cross, Pin, Cloth
def w0 : ByteArray := ⟨#[67, 84, 80, 67]⟩
def s0 : Sheet := ⟨2, [⟨1, 0, w0⟩]⟩
def c0 : Cloth := ⟨4, [⟨0, 1, 1, 2⟩, ⟨0, 0, 2, 0⟩, ⟨0, 2, 3, 1⟩, ⟨0, 1, 0, 3⟩], [⟨0, 1, 0, 3⟩]⟩
def t0 : Task := ⟨c0, [⟨0, 2⟩], [], 2, 2, 0, 0, 0, 0⟩
theorem s0_make : makeC s0 = c0 := by decide +kernel
theorem s0_sheet : sheetB s0 = 0 := by decide +kernel
theorem c0_cloth : clothB c0 = 0 := by decide +kernel
theorem t0_solve : solveR t0 = ([0, 1, 0, 1], 0) := by decide +kernel
theorem c0_seen : seenL c0 [0, 1, 0, 1] = [1, 0, 1, 0] := by decide +kernel
instance (x : Int) : Decidable (I64 x) := by unfold I64; infer_instance
instance (x : Wish) : Decidable x.wf := by unfold Wish.wf; infer_instance
/-- A literal's rows, in a block of its own. -/
theorem rows_lit {α : Type} (f : α → List Value) (sz : Nat) (hf : ∀ x, (f x).length = sz) (w : World) (ty : TypeId) (l : List α) {cs : Array Value} (hcs : cs = (l.flatMap f).toArray) : Rows (w.alloc (.cells cs ty)) (some ⟨w.heap.size, 0, none⟩) sz (l.map f) := by
  refine .inr ⟨w.heap.size, 0, rfl, by simp, fun i r hr j v hv => ?_⟩
  have := flat_get f sz hf l i r hr j v hv
  subst hcs
  simp [this]
theorem lit_works (w : World) (ty : TypeId) (p : Int) (l : List Work) {cs : Array Value} (hcs : cs = (l.flatMap Work.cells).toArray) (hl : l.length ≤ 100) (hp : I64 p) (hw : ∀ x ∈ l, I64 x.kind ∧ I64 x.at_ ∧ x.word.size ≤ 9223372036854775807) : SheetRd (w.alloc (.cells cs ty)) (some ⟨w.heap.size, 0, none⟩) l.length ⟨p, l⟩ :=
  ⟨rows_lit _ 3 (fun _ => rfl) w ty l hcs, Nat.le_refl _, by unfold maxLen; omega, hp, hw⟩
theorem lit_ints (w : World) (ty : TypeId) (l : List Int) {cs : Array Value} (hcs : cs = (l.flatMap intCells).toArray) (hl : l.length ≤ 100) (hw : ∀ x ∈ l, I64 x) : IntsRd (w.alloc (.cells cs ty)) (some ⟨w.heap.size, 0, none⟩) l.length l :=
  ⟨rows_lit _ 1 (fun _ => rfl) w ty l hcs, Nat.le_refl _, by simp, by unfold maxLen; omega, hw⟩

set_option maxRecDepth 100000 in
set_option maxHeartbeats 8000000 in
theorem awake_any {w : World} :
    Calls Try.prog 4 #[] w fun e w' => e = .returned (.bool true) ∧ Below w.heap.size w w' := by
  go_enter Try.func4, Try.ntmps4
  go_wp2_with fail
  refine (make_prog (s := s0) (lit_works w _ 2 [⟨1, 0, w0⟩] rfl (by decide) (by decide) (by decide)) (sheetB_ok s0_sheet)).mono ?_
  rintro e w1 ⟨cA, cc, pA, pc, rfl, hC, hb1⟩
  rw [s0_make] at hC
  simp only [s0_make]
  have hB1 := (below_box _).trans (hb1.mono (by simp))
  clear hb1
  go_wp2_with fail
  have hbx := below_box2 w1 (.cells #[.int .i64 c0.threads, .slice cA c0.crosses.length cc, .slice pA c0.pins.length pc] 36) (.cells #[.int .i64 0, .int .u8 2] 43)
  have q0 : ((w1.alloc (.cells #[.int .i64 c0.threads, .slice cA c0.crosses.length cc, .slice pA c0.pins.length pc] 36)).alloc (.cells #[.int .i64 0, .int .u8 2] 43)).cell? ⟨w1.heap.size, 0, none⟩ = some (.int .i64 c0.threads) := by simp
  have q1 : ((w1.alloc (.cells #[.int .i64 c0.threads, .slice cA c0.crosses.length cc, .slice pA c0.pins.length pc] 36)).alloc (.cells #[.int .i64 0, .int .u8 2] 43)).cell? ⟨w1.heap.size, 1, none⟩ = some (.slice cA c0.crosses.length cc) := by simp
  have q2 : ((w1.alloc (.cells #[.int .i64 c0.threads, .slice cA c0.crosses.length cc, .slice pA c0.pins.length pc] 36)).alloc (.cells #[.int .i64 0, .int .u8 2] 43)).cell? ⟨w1.heap.size, 2, none⟩ = some (.slice pA c0.pins.length pc) := by simp
  have hz : w1.heap.size < ((w1.alloc (.cells #[.int .i64 c0.threads, .slice cA c0.crosses.length cc, .slice pA c0.pins.length pc] 36)).alloc (.cells #[.int .i64 0, .int .u8 2] 43)).heap.size := by simp; omega
  have hW : Rows ((w1.alloc (.cells #[.int .i64 c0.threads, .slice cA c0.crosses.length cc, .slice pA c0.pins.length pc] 36)).alloc (.cells #[.int .i64 0, .int .u8 2] 43)) (some ⟨w1.heap.size + 1, 0, none⟩) 2 (t0.wishes.map Wish.cells) := by
    have := rows_lit Wish.cells 2 (fun _ => rfl) (w1.alloc (.cells #[.int .i64 c0.threads, .slice cA c0.crosses.length cc, .slice pA c0.pins.length pc] 36)) 43 t0.wishes (cs := #[.int .i64 0, .int .u8 2]) rfl
    rwa [World.size_alloc] at this
  have hC1 := hC.below hbx
  have hBB := hB1.trans (hbx.mono hB1.size)
  generalize ((w1.alloc (.cells #[.int .i64 c0.threads, .slice cA c0.crosses.length cc, .slice pA c0.pins.length pc] 36)).alloc (.cells #[.int .i64 0, .int .u8 2] 43)) = W at *
  have hT : TaskRd W cA cc pA pc (some ⟨w1.heap.size + 1, 0, none⟩) 1 none 0 t0 := ⟨hC1, hW, Nat.le_refl _, by unfold maxLen; omega, .inl rfl, Nat.le_refl _, by unfold maxLen; omega, ⟨hC1.wf, by decide, by decide, by decide, by decide, by decide, by decide, by decide, by decide⟩⟩
  refine (dysolve_any hT).mono ?_
  rintro e w2 ⟨v, rfl, hv, hb2⟩
  rw [t0_solve] at hv
  simp only [t0_solve]
  obtain ⟨lA, lc, rfl, hL⟩ := hv
  have q0 := (hb2.cell (p := ⟨w1.heap.size, 0, none⟩) hz).trans q0
  have q1 := (hb2.cell (p := ⟨w1.heap.size, 1, none⟩) hz).trans q1
  have q2 := (hb2.cell (p := ⟨w1.heap.size, 2, none⟩) hz).trans q2
  have hC2 := hC1.below hb2
  have hB2 := hBB.trans (hb2.mono hBB.size)
  clear hT hW hC1 hC hbx hBB hb2 hz
  go_wp2_with fail
  refine (seen_any hC2 c0_cloth hL (by unfold ColR; decide) rfl).mono ?_
  rintro e w3 ⟨gA, gc, rfl, hG, hb3⟩
  rw [c0_seen] at hG
  simp only [c0_seen]
  have hB3 := hB2.trans (hb3.mono hB2.size)
  clear hb3 hB2
  go_wp2_with fail
  have hlit := lit_ints w3 3 [1, 0, 1, 0] (cs := #[.int .i64 1, .int .i64 0, .int .i64 1, .int .i64 0]) rfl (by decide) (by decide)
  have hbx := below_box (w := w3) (.cells #[.int .i64 1, .int .i64 0, .int .i64 1, .int .i64 0] 3)
  have hB4 := hB3.trans (hbx.mono hB3.size)
  refine (same_any (hG.below hbx) hlit).mono ?_
  rintro e w4 ⟨rfl, hb4⟩
  have hB5 := hB4.trans (hb4.mono hB4.size)
  clear hb4 hB4 hbx hlit
  go_wp2_with fail
  go_ret
  exact ⟨by simp, hB5⟩
end Go.Proofs.Ytegbbkmppphddaa
