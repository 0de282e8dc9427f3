/- A range over sets of wishes, whatever its body. -/
import Derived.Test.YtegbbkmppphddaaDoorChosen2
import Derived.RangeFuncMany
import Derived.Shelf.Abstract
set_option linter.unusedVariables false
set_option linter.unusedSimpArgs false
namespace Go.Proofs.YtegbbkmppphddaaDoor
open Go.RowKit

/-- How a round's body may be left. -/
def PostC (bad : Bool) (ra rb B : Nat) (I Ix : World → Prop) (W : World) : Exit → Act → World → Prop
  | .normal, _, W' => bad = false ∧ Below W.heap.size W W' ∧ I W'
  | .ret, _, W' => bad = true ∧ W.heap.size ≤ W'.heap.size ∧ (∀ k, k < B → k ≠ ra → k ≠ rb → W'.heap[k]? = W.heap[k]?) ∧ Ix W'
  | _, _, _ => False

/-- What a round must achieve. -/
def RoundC (m : Nat) (ps : Array Tmp) (assign body : Code) (tmps : Array Value) (ra rb l : Nat) (bad : List Nat → Bool) (I : World → Prop) (Ix : List Nat → World → Prop) (W : World) (x : List Nat) : Prop :=
  assign.wpIn (Fence.wide.inRound l) m Tryd.prog (Exit.then (fun a₁ W₁ => Below W.heap.size W W₁ ∧ ∀ W₂, I W₂ → W₂.heap.size = W₁.heap.size → (∀ k, k ≠ l → W₂.heap[k]? = W₁.heap[k]?) →
      body.wpIn (Fence.wide.inRound l) m Tryd.prog (PostC (bad x) ra rb W.heap.size I (Ix x) W₂) a₁ W₂) (fun _ _ _ => False))
    { tmps := (ps.zip #[.int .u64 (setOf x : Nat)]).foldl (fun t (p, v) => t.setIfInBounds p v) tmps, defers := [] } W

set_option maxHeartbeats 1000000 in
theorem wpIn_range_chosen {n : Nat} {g : Operand} {ps : Array Tmp} {assign body : Code} {Q : Exit → Act → World → Prop} {a : Act} {w : World}
    (TO TM ra rb of' many : Nat) (bad : List Nat → Bool) (I : World → Prop) (Ix : List Nat → World → Prop) (hof : of' ≤ 10) (hmany : many ≤ 10)
    (hg : a.eval g = .func (.func 47) #[] #[.pointer (some ⟨TO, 0, none⟩), .pointer (some ⟨TM, 0, none⟩)]) (hps : ps.size = 1)
    (hTO : TO < w.heap.size) (hTM : TM < w.heap.size) (hra : ra < w.heap.size) (hrb : rb < w.heap.size) (n1 : TO ≠ ra) (n2 : TO ≠ rb)
    (h1 : w.cell? ⟨TO, 0, none⟩ = some (.int .i64 of')) (h2 : w.cell? ⟨TM, 0, none⟩ = some (.int .i64 many))
    (hI : ∀ W W', I W → Below W.heap.size W W' → I W') (hIl : ∀ W l o, I W → w.heap.size ≤ l → I (W.putObj l o)) (hIx : ∀ e W o, Ix e W → Ix e (W.putObj (w.heap.size + 1) o)) (hIxd : ∀ e W, Ix e W → Ix e W.drew) (h0 : I w)
    (hround : ∀ m l W x, w.heap.size < l → l < W.heap.size → I W → Asc of' x → RoundC m ps assign body a.tmps ra rb l bad I Ix W x)
    (hdone : ∀ W, clashG bad of' many [] 0 = none → I W → W.heap[w.heap.size]? = some (.deferred (some [])) → Q .normal { a with defers := { target := .collected w.heap.size, args := #[] } :: a.defers } W)
    (hstop : ∀ W x, clashG bad of' many [] 0 = some x → Ix x W → W.heap[w.heap.size]? = some (.deferred (some [])) → Code.ret.wpIn Fence.wide n Tryd.prog Q { a with defers := { target := .collected w.heap.size, args := #[] } :: a.defers } W) :
    (Code.rangeFunc g ps assign body).wpIn Fence.wide n Tryd.prog Q a w := by
  refine wpIn_rangeFunc ?_
  intro fn hfn
  obtain ⟨rec, hrec⟩ : ∃ rec : LoopState → Option Code → Loop, rec = fun st pe => { state := st, pending := pe, fn, tmps := a.tmps, params := ps, assign, body, defers := w.heap.size } := ⟨_, rfl⟩
  obtain ⟨W1, hW1⟩ : ∃ W1, (w.alloc (.deferred (some []))).alloc (.loop (rec .ready none)) = W1 := ⟨_, rfl⟩
  have hB1 : Below w.heap.size w W1 := by rw [← hW1]; exact (below_box _).trans ((below_box _).mono (by simp))
  have hs1 : W1.heap.size = w.heap.size + 2 := by rw [← hW1]; simp
  have hL1 : W1.heap[w.heap.size + 1]? = some (.loop (rec .ready none)) := by
    rw [← hW1]; have := World.alloc_heap_new (w.alloc (.deferred (some []))) (.loop (rec .ready none)); rwa [World.size_alloc] at this
  have hK1 : W1.heap[w.heap.size]? = some (.deferred (some [])) := by
    rw [← hW1]; exact (Below.heap_alloc _ _ _ (by simp)).trans (World.alloc_heap_new w _)
  have hI1 : I W1 := hI _ _ h0 hB1
  refine ⟨w.heap.size + 1, [{ target := .collected w.heap.size, args := #[] }], W1, { target := .fn (.func 47) #[.pointer (some ⟨TO, 0, none⟩), .pointer (some ⟨TM, 0, none⟩)], args := #[.func (.yield (w.heap.size + 1)) #[] #[]] }, W1, 47,
    #[.func (.yield (w.heap.size + 1)) #[] #[]] ++ #[.pointer (some ⟨TO, 0, none⟩), .pointer (some ⟨TM, 0, none⟩)], W1, ?_, ?_, ?_, ?_, fun h => (by cases h), ?_⟩
  · rw [← hW1, hrec]; exact run_enterLoop_outer _ _ _ _ _
  · simp only [resolve, hg]
    simp [go_sem]
  · intro f' _; exact trivial
  · have eg := enters_of (P := Tryd.prog) Tryd.func47 (by kernel_rfl) rfl
    simp [invoke, go_sem, eg]
  refine CallsIn.mono (chosen1_any (n - 1) (w.heap.size + 1) TO TM ra rb of' many W1 bad
    (fun W => I W ∧ W.heap[w.heap.size + 1]? = some (.loop (rec .ready none)) ∧ W.heap[w.heap.size]? = some (.deferred (some [])) ∧ w.heap.size + 2 ≤ W.heap.size)
    (fun e W => Ix e W ∧ W.heap[w.heap.size + 1]? = some (.loop (rec .done (some .ret))) ∧ W.heap[w.heap.size]? = some (.deferred (some [])))
    hof hmany (by omega) (by omega) (by omega) (by omega) n1 n2 (by omega)
    ((hB1.cell (p := ⟨TO, 0, none⟩) hTO).trans h1) ((hB1.cell (p := ⟨TM, 0, none⟩) hTM).trans h2) (by omega) ?keep (fun e W h => ⟨hIxd e W h.1, h.2⟩) ⟨hI1, hL1, hK1, by omega⟩ ?yield) ?done
  case keep =>
    rintro W W' ⟨hi, hl, hk, hs⟩ hg'
    exact ⟨hI _ _ hi hg', (hg'.block _ (by omega)).trans hl, (hg'.block _ (by omega)).trans hk, by have := hg'.size; omega⟩
  case yield =>
    rintro m W x hgr ⟨hi, hl, hk, hs⟩ hasc
    have hlt : w.heap.size + 1 < W.heap.size := (Array.getElem?_eq_some_iff.1 hl).1
    have hy := run_yield (P := Tryd.prog) (args := #[.int .u64 (setOf x : Nat)]) hl (by rw [hrec]; exact hps.symm)
    rw [hrec] at hy
    refine ⟨fn, _, assign, body, hy, roundIn_of_wpIn hfn ?_⟩
    refine wpIn_mono (hround m (w.heap.size + 1) W x (by omega) hlt hi hasc) ?_
    rintro e a1 W2 h
    cases e with
    | normal =>
      obtain ⟨hb2, hbody⟩ := h
      have hl2 : W2.heap[w.heap.size + 1]? = some (.loop (rec .ready none)) := (hb2.block _ hlt).trans hl
      have hk2 : W2.heap[w.heap.size]? = some (.deferred (some [])) := (hb2.block _ (by omega)).trans hk
      have hlt2 := (Array.getElem?_eq_some_iff.1 hl2).1
      refine ⟨_, run_beginRound hl2 (by rw [hrec]), ?_⟩
      have hl3 : (W2.putObj (w.heap.size + 1) (.loop { rec .ready none with state := .busy })).heap[w.heap.size + 1]? = some (.loop { rec .ready none with state := .busy }) := World.putObj_heap_same hlt2
      have hk3 : (W2.putObj (w.heap.size + 1) (.loop { rec .ready none with state := .busy })).heap[w.heap.size]? = some (.deferred (some [])) := (World.putObj_heap_other (by omega)).trans hk2
      have hs3 : (W2.putObj (w.heap.size + 1) (.loop { rec .ready none with state := .busy })).heap.size = W2.heap.size := by simp [World.putObj]
      have ho3 : ∀ k, k ≠ w.heap.size + 1 → (W2.putObj (w.heap.size + 1) (.loop { rec .ready none with state := .busy })).heap[k]? = W2.heap[k]? := fun k hne => World.putObj_heap_other hne
      have hi3 : I (W2.putObj (w.heap.size + 1) (.loop { rec .ready none with state := .busy })) := hIl _ _ _ (hI _ _ hi hb2) (by omega)
      refine wpIn_mono (hbody _ hi3 hs3 ho3) ?_
      have he3 : (W2.putObj (w.heap.size + 1) (.loop { rec .ready none with state := .busy })).os = W2.os ∧ (W2.putObj (w.heap.size + 1) (.loop { rec .ready none with state := .busy })).tape = W2.tape ∧ (W2.putObj (w.heap.size + 1) (.loop { rec .ready none with state := .busy })).output = W2.output := ⟨rfl, rfl, rfl⟩
      generalize (W2.putObj (w.heap.size + 1) (.loop { rec .ready none with state := .busy })) = W3 at *
      rintro e a3 W4 hp
      have hws : W.heap.size ≤ W3.heap.size := by have := hb2.size; omega
      cases e with
      | normal =>
        obtain ⟨hok, hb4, hi4⟩ := hp
        have hl4 : W4.heap[w.heap.size + 1]? = _ := (hb4.block _ (by omega)).trans hl3
        have hk4 : W4.heap[w.heap.size]? = _ := (hb4.block _ (by omega)).trans hk3
        have hs4 : W3.heap.size ≤ W4.heap.size := hb4.size
        have hend := run_endRound (P := Tryd.prog) none hl4
        have hready : ({ { rec .ready none with state := .busy : Loop } with state := if (none : Option Code).isNone then .ready else .done, pending := none } : Loop) = rec .ready none := by rw [hrec]; rfl
        rw [hready] at hend
        refine ⟨_, _, hend, .inl ⟨hok, rfl, ⟨hIl _ _ _ hi4 (by omega), World.putObj_heap_same (Array.getElem?_eq_some_iff.1 hl4).1, (World.putObj_heap_other (by omega)).trans hk4, by simp [World.putObj]; omega⟩, ?_⟩⟩
        refine ⟨hb4.os.trans (he3.1.trans hb2.os), hb4.tape.trans (he3.2.1.trans hb2.tape), hb4.output.trans (he3.2.2.trans hb2.output), ?_, ?_⟩
        · simp [World.putObj]; omega
        · intro k hk'
          by_cases hkl : k = w.heap.size + 1
          · subst hkl
            exact (World.putObj_heap_same (Array.getElem?_eq_some_iff.1 hl4).1).trans hl.symm
          · exact (World.putObj_heap_other hkl).trans ((hb4.block _ (by omega)).trans ((ho3 k hkl).trans (hb2.block _ hk')))
      | ret =>
        obtain ⟨hok, hs4, hb4, hi4⟩ := hp
        have hl4 : W4.heap[w.heap.size + 1]? = _ := (hb4 _ (by omega) (by omega) (by omega)).trans hl3
        have hk4 : W4.heap[w.heap.size]? = _ := (hb4 _ (by omega) (by omega) (by omega)).trans hk3
        have hend := run_endRound (P := Tryd.prog) (some .ret) hl4
        have hready : ({ { rec .ready none with state := .busy : Loop } with state := if (some Code.ret : Option Code).isNone then .ready else .done, pending := some .ret } : Loop) = rec .done (some .ret) := by rw [hrec]; rfl
        rw [hready] at hend
        refine ⟨_, _, hend, .inr ⟨hok, rfl, ⟨hIx _ _ _ hi4, World.putObj_heap_same (Array.getElem?_eq_some_iff.1 hl4).1, (World.putObj_heap_other (by omega)).trans hk4⟩, ?_, ?_⟩⟩
        · simp [World.putObj]; omega
        · intro k hk' hka hkb hkl
          exact (World.putObj_heap_other hkl).trans ((hb4 _ (by omega) hka hkb).trans ((ho3 k hkl).trans (hb2.block _ hk')))
      | _ => exact hp.elim
    | _ => exact h.elim
  case done =>
    rintro e W2 ⟨⟨v, rfl⟩, (⟨hok, hi, hl, hk, -⟩ | ⟨x, hok, hi, hl, hk⟩)⟩
    · have := run_endLoop (P := Tryd.prog) hl (by rw [hrec]; simp)
      exact ⟨none, _, by rw [this, hrec], hdone _ hok (hIl _ _ _ hi (by omega)) ((World.putObj_heap_other (by omega)).trans hk)⟩
    · have := run_endLoop (P := Tryd.prog) hl (by rw [hrec]; simp)
      exact ⟨some .ret, _, by rw [this, hrec], hstop _ x hok (hIx _ _ _ hi) ((World.putObj_heap_other (by omega)).trans hk)⟩
end Go.Proofs.YtegbbkmppphddaaDoor
