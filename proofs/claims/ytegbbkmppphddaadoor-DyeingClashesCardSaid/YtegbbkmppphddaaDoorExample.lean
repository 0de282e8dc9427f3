/- The law's example, by contract. -/
import Derived.Test.YtegbbkmppphddaaDoorRefMake
set_option linter.unusedVariables false
set_option linter.unusedSimpArgs false
namespace Go.Proofs.YtegbbkmppphddaaDoor
open Go.RowKit

def exTask (l : List Wish) : Task := ⟨exCloth, l, [], 2, 2, 0, 0, 0, 0⟩
structure WishesRd (w : World) (A : Option Addr) (c : Nat) (l : List Wish) : Prop where
  rows : Rows w A 2 (l.map Wish.cells)
  len : l.length ≤ c
  cap : c ≤ maxLen
  wf : ∀ x ∈ l, x.wf
theorem WishesRd.below {w w' : World} {A : Option Addr} {c : Nat} {l : List Wish} (h : WishesRd w A c l) (hb : Below w.heap.size w w') : WishesRd w' A c l := ⟨h.rows.below hb, h.len, h.cap, h.wf⟩
def ExPost (w : World) (A : Option Addr) (c : Nat) (l : List Wish) (e : Ending) (w' : World) : Prop :=
  ∃ cA cc pA pc, e = .returned (taskVal cA cc pA pc A c none 0 (exTask l)) ∧ TaskRd w' cA cc pA pc A c none 0 (exTask l) ∧ Below w.heap.size w w'
theorem exTask_wf {l : List Wish} (h : ∀ x ∈ l, x.wf) : (exTask l).wf := by
  refine ⟨exCloth_wf, h, fun x hx => absurd hx (by simp [exTask]), ?_, ?_, ?_, ?_, ?_, ?_⟩ <;> simp [exTask, I64]

set_option maxRecDepth 100000 in
set_option maxHeartbeats 8000000 in
theorem example_any {w : World} {A : Option Addr} {c : Nat} {l : List Wish} (h : WishesRd w A c l) :
    Calls Tryd.prog 21 #[.slice A l.length c] w (ExPost w A c l) := by
  have hl := h.len
  have hc := h.cap
  unfold maxLen at hc
  go_enter Tryd.func21, Tryd.ntmps21
  go_wp2_with fail
  have hB1 := below_box2 w (.cells #[.int .i64 0, .slice none 0 0, .slice none 0 0, .slice none 0 0, .slice none 0 0, .int .i64 0, .int .i64 0, .int .i64 0, .int .i64 0, .int .i64 0, .int .i64 0] 30) (.cells #[.int .i64 1, .int .i64 0, .string exW] 74)
  have hSh : SheetRd ((w.alloc (.cells #[.int .i64 0, .slice none 0 0, .slice none 0 0, .slice none 0 0, .slice none 0 0, .int .i64 0, .int .i64 0, .int .i64 0, .int .i64 0, .int .i64 0, .int .i64 0] 30)).alloc (.cells #[.int .i64 1, .int .i64 0, .string exW] 74)) (some ⟨w.heap.size + 1, 0, none⟩) 1 exSheet := by
    refine ⟨.inr ⟨w.heap.size + 1, 0, rfl, by simp, fun i r hr j v hv => ?_⟩, Nat.le_refl _, by unfold maxLen; omega, by unfold I64; decide, ?_⟩
    · have hi : i = 0 := by have := (List.getElem?_eq_some_iff.1 hr).1; simp [exSheet] at this; exact this
      subst hi
      have hr' : r = [.int .i64 1, .int .i64 0, .string exW] := by simpa [exSheet, Work.cells] using hr.symm
      subst hr'
      have hj : j < 3 := by have := (List.getElem?_eq_some_iff.1 hv).1; simpa using this
      have hj' : j = 0 ∨ j = 1 ∨ j = 2 := by omega
      rcases hj' with rfl | rfl | rfl <;> (simp at hv; subst hv; simp)
    · intro x hx
      simp only [exSheet, List.mem_cons, List.not_mem_nil, or_false] at hx
      subst hx
      exact ⟨by unfold I64; decide, by unfold I64; decide, by decide⟩
  refine (make_ex hSh).mono ?_
  rintro e w1 ⟨cA, cc, pA, pc, rfl, hC, hcA, hpA, hb1⟩
  simp only [World.size_alloc] at hb1 hcA hpA
  obtain ⟨hcell, hfro⟩ := bcell hb1
  have hs1 : w.heap.size + 1 < w1.heap.size := by have := hb1.size; simp at this; omega
  have hBw : Below w.heap.size w w1 := hB1.trans (hb1.mono (by omega))
  have z : ∀ o v, (w.alloc (.cells #[.int .i64 0, .slice none 0 0, .slice none 0 0, .slice none 0 0, .slice none 0 0, .int .i64 0, .int .i64 0, .int .i64 0, .int .i64 0, .int .i64 0, .int .i64 0] 30)).cell? ⟨w.heap.size, o, none⟩ = some v → w1.cell? ⟨w.heap.size, o, none⟩ = some v := fun o v e => (hcell w.heap.size o (by omega)).trans (by simpa using e)
  have z0 := z 0 _ (by simp; rfl)
  have z1 := z 1 _ (by simp; rfl)
  have z2 := z 2 _ (by simp; rfl)
  have z3 := z 3 _ (by simp; rfl)
  have z4 := z 4 _ (by simp; rfl)
  have z5 := z 5 _ (by simp; rfl)
  have z6 := z 6 _ (by simp; rfl)
  have z7 := z 7 _ (by simp; rfl)
  have z8 := z 8 _ (by simp; rfl)
  have z9 := z 9 _ (by simp; rfl)
  have z10 := z 10 _ (by simp; rfl)
  have zf : ∀ o, w1.frozen? ⟨w.heap.size, o, none⟩ = false := fun o => (hfro w.heap.size o (by omega)).trans (by simp)
  have hs0 : w.heap.size < w1.heap.size := by omega
  have hne : w.heap.size ≠ w1.heap.size := by omega
  clear hcell hfro hB1 hSh z
  go_wp2_with fail
  generalize hW' : ((((((((((((w1.setCell ⟨w.heap.size, 0, none⟩ (.int .i64 exCloth.threads)).setCell ⟨w.heap.size, 1, none⟩ (.slice cA exCloth.crosses.length cc)).setCell ⟨w.heap.size, 2, none⟩ (.slice pA exCloth.pins.length pc)).setCell ⟨w.heap.size, 3, none⟩ (.slice A l.length c)).setCell ⟨w.heap.size, 4, none⟩ (.slice none 0 0)).setCell ⟨w.heap.size, 5, none⟩ (.int .i64 2)).setCell ⟨w.heap.size, 6, none⟩ (.int .i64 2)).setCell ⟨w.heap.size, 7, none⟩ (.int .i64 0)).setCell ⟨w.heap.size, 8, none⟩ (.int .i64 0)).setCell ⟨w.heap.size, 9, none⟩ (.int .i64 0)).setCell ⟨w.heap.size, 10, none⟩ (.int .i64 0)).alloc (.cells #[.int .i64 exCloth.threads, .slice cA exCloth.crosses.length cc, .slice pA exCloth.pins.length pc] 25)) = W'
  have y0 : W'.cell? ⟨w.heap.size, 0, none⟩ = some (.int .i64 exCloth.threads) := by rw [← hW']; clear hW'; go_simp
  have y1 : W'.cell? ⟨w.heap.size, 1, none⟩ = some (.slice cA exCloth.crosses.length cc) := by rw [← hW']; clear hW'; go_simp
  have y2 : W'.cell? ⟨w.heap.size, 2, none⟩ = some (.slice pA exCloth.pins.length pc) := by rw [← hW']; clear hW'; go_simp
  have y3 : W'.cell? ⟨w.heap.size, 3, none⟩ = some (.slice A l.length c) := by rw [← hW']; clear hW'; go_simp
  have y4 : W'.cell? ⟨w.heap.size, 4, none⟩ = some (.slice none 0 0) := by rw [← hW']; clear hW'; go_simp
  have y5 : W'.cell? ⟨w.heap.size, 5, none⟩ = some (.int .i64 2) := by rw [← hW']; clear hW'; go_simp
  have y6 : W'.cell? ⟨w.heap.size, 6, none⟩ = some (.int .i64 2) := by rw [← hW']; clear hW'; go_simp
  have y7 : W'.cell? ⟨w.heap.size, 7, none⟩ = some (.int .i64 0) := by rw [← hW']; clear hW'; go_simp
  have y8 : W'.cell? ⟨w.heap.size, 8, none⟩ = some (.int .i64 0) := by rw [← hW']; clear hW'; go_simp
  have y9 : W'.cell? ⟨w.heap.size, 9, none⟩ = some (.int .i64 0) := by rw [← hW']; clear hW'; go_simp
  have y10 : W'.cell? ⟨w.heap.size, 10, none⟩ = some (.int .i64 0) := by rw [← hW']; clear hW'; go_simp
  have hk : ∀ k, k ≠ w.heap.size → k < w1.heap.size → W'.heap[k]? = w1.heap[k]? := fun k h1 h2 => by rw [← hW']; exact (Below.heap_alloc _ _ _ (by simpa using h2)).trans ((Below.heap_setCell _ _ _ _ (by simpa using h1)).trans ((Below.heap_setCell _ _ _ _ (by simpa using h1)).trans ((Below.heap_setCell _ _ _ _ (by simpa using h1)).trans ((Below.heap_setCell _ _ _ _ (by simpa using h1)).trans ((Below.heap_setCell _ _ _ _ (by simpa using h1)).trans ((Below.heap_setCell _ _ _ _ (by simpa using h1)).trans ((Below.heap_setCell _ _ _ _ (by simpa using h1)).trans ((Below.heap_setCell _ _ _ _ (by simpa using h1)).trans ((Below.heap_setCell _ _ _ _ (by simpa using h1)).trans ((Below.heap_setCell _ _ _ _ (by simpa using h1)).trans (Below.heap_setCell _ _ _ _ (by simpa using h1))))))))))))
  have hB : Below w.heap.size w W' := by
    rw [← hW']
    exact (((((((((((hBw.setCell (p := ⟨w.heap.size, 0, none⟩) (by simp) _).setCell (p := ⟨w.heap.size, 1, none⟩) (by simp) _).setCell (p := ⟨w.heap.size, 2, none⟩) (by simp) _).setCell (p := ⟨w.heap.size, 3, none⟩) (by simp) _).setCell (p := ⟨w.heap.size, 4, none⟩) (by simp) _).setCell (p := ⟨w.heap.size, 5, none⟩) (by simp) _).setCell (p := ⟨w.heap.size, 6, none⟩) (by simp) _).setCell (p := ⟨w.heap.size, 7, none⟩) (by simp) _).setCell (p := ⟨w.heap.size, 8, none⟩) (by simp) _).setCell (p := ⟨w.heap.size, 9, none⟩) (by simp) _).setCell (p := ⟨w.heap.size, 10, none⟩) (by simp) _).alloc (by have := hBw.size; simp; omega) _
  have hsz : w1.heap.size ≤ W'.heap.size := by rw [← hW']; simp
  have hrow : ∀ {A : Option Addr} {sz : Nat} {rows : List (List Value)}, Rows w1 A sz rows → (∀ b off, A = some ⟨b, off, none⟩ → w.heap.size + 1 + 1 ≤ b) → Rows W' A sz rows := by
    intro A sz rows h hA
    rcases h with h | ⟨b, off, e, hlt, hc⟩
    · exact .inl h
    · have := hA b off e
      exact .inr ⟨b, off, e, by omega, fun i r hr j v hv => (World.cell?_of_block (a := ⟨b, _, none⟩) (hk b (by omega) hlt)).trans (hc i r hr j v hv)⟩
  have hC' : ClothRd W' cA cc pA pc exCloth := ⟨hrow hC.crosses hcA, hC.clen, hC.ccap, hrow hC.pins hpA, hC.plen, hC.pcap, hC.wf⟩
  clear hW' z0 z1 z2 z3 z4 z5 z6 z7 z8 z9 z10
  refine bodyPost_ret (v := taskVal cA cc pA pc A c none 0 (exTask l)) (by simp [results, Tryd.f21, go_sem, y0, y1, y2, y3, y4, y5, y6, y7, y8, y9, y10]; exact ⟨rfl, rfl, rfl, rfl, rfl, rfl, rfl, rfl, rfl, rfl, rfl⟩) rfl ⟨cA, cc, pA, pc, rfl, ⟨hC', h.rows.below hB, h.len, h.cap, .inl rfl, Nat.le_refl _, by unfold maxLen; omega, exTask_wf h.wf⟩, hB⟩
end Go.Proofs.YtegbbkmppphddaaDoor
