/- A cloth in the making, in memory. -/
import Derived.Test.YtegbbkmppphddaaDoorRefLine
import Derived.Test.YtegbbkmppphddaaDoorRefSheet
import Derived.Test.YtegbbkmppphddaaDoorRefClash
import Derived.Test.YtegbbkmppphddaaDoorHeldL
set_option linter.unusedVariables false
set_option linter.unusedSimpArgs false
namespace Go.Proofs.YtegbbkmppphddaaDoor
open Go.RowKit

def crossCells (l : List Cross) : List Value := l.flatMap Cross.cells
def pinCells (l : List Pin) : List Value := l.flatMap Pin.cells
theorem crossCells_snoc (l : List Cross) (x : Cross) : crossCells (l ++ [x]) = crossCells l ++ x.cells := by simp [crossCells]
theorem pinCells_snoc (l : List Pin) (x : Pin) : pinCells (l ++ [x]) = pinCells l ++ x.cells := by simp [pinCells]
theorem cross_ones (x : Cross) : ∀ u ∈ x.cells, u.oneCell' = true := by
  intro u hu
  simp [Cross.cells] at hu
  rcases hu with rfl | rfl | rfl | rfl <;> rfl
theorem pin_ones (x : Pin) : ∀ u ∈ x.cells, u.oneCell' = true := by
  intro u hu
  simp [Pin.cells] at hu
  rcases hu with rfl | rfl | rfl | rfl <;> rfl
/-- Cells row by row. -/
theorem flat_get {α : Type} (f : α → List Value) (sz : Nat) (hf : ∀ x, (f x).length = sz) : ∀ (l : List α) (i : Nat) (r : List Value), (l.map f)[i]? = some r → ∀ (j : Nat) (v : Value), r[j]? = some v → (l.flatMap f)[i * sz + j]? = some v
  | [], i, r, h, j, v, hv => by simp at h
  | a :: l, 0, r, h, j, v, hv => by
    have : r = f a := by simpa using h.symm
    subst this
    have hj : j < sz := by have := (List.getElem?_eq_some_iff.1 hv).1; rw [hf] at this; exact this
    rw [List.flatMap_cons, List.getElem?_append_left (by rw [hf]; omega)]
    simpa using hv
  | a :: l, i + 1, r, h, j, v, hv => by
    have := flat_get f sz hf l i r (by simpa using h) j v hv
    rw [List.flatMap_cons, List.getElem?_append_right (by rw [hf, Nat.add_mul]; omega), ← this]
    congr 1
    rw [hf, Nat.add_mul]; omega
theorem flat_length {α : Type} (f : α → List Value) (sz : Nat) (hf : ∀ x, (f x).length = sz) (l : List α) : (l.flatMap f).length = l.length * sz := by
  induction l with
  | nil => simp
  | cons a l ih => rw [List.flatMap_cons, List.length_append, ih, hf, List.length_cons, Nat.add_mul]; omega
theorem rows_of_ownsG {α : Type} (f : α → List Value) (sz : Nat) (hf : ∀ x, (f x).length = sz) {w : World} {base e : Nat} {A : Option Addr} {c : Nat} {l : List α} (h : w.ownsRow base e sz (.slice A l.length c) l.length (l.flatMap f)) :
    Rows w A sz (l.map f) ∧ l.length ≤ c ∧ c ≤ maxLen := by
  rcases h.2 with ⟨hv, h0⟩ | ⟨g, cap, cur, hv, hb, hg, h1, h2, h3, h4⟩
  · simp only [Value.slice.injEq] at hv
    obtain ⟨rfl, -, rfl⟩ := hv
    obtain rfl := List.eq_nil_of_length_eq_zero h0
    exact ⟨.inl rfl, by simp, by unfold maxLen; omega⟩
  · simp only [Value.slice.injEq] at hv
    obtain ⟨rfl, -, rfl⟩ := hv
    refine ⟨.inr ⟨g, 0, rfl, (Array.getElem?_eq_some_iff.1 hg).1, fun i r hr j v hv => ?_⟩, h1, h2⟩
    have hget := flat_get f sz hf l i r hr j v hv
    have hlt := (List.getElem?_eq_some_iff.1 hget).1
    rw [flat_length f sz hf] at hlt
    have := h.cellAt (i * sz + j) hlt
    rw [Nat.zero_add, this]
    exact hget

structure MkAt (W2 w : World) (CB g gc : Nat) (s : Mk) (cA : Option Addr) (cc : Nat) (pA : Option Addr) (pc : Nat) : Prop where
  c0 : w.cell? ⟨CB, 0, none⟩ = some (.int .i64 4)
  c1 : w.cell? ⟨CB, 1, none⟩ = some (.slice cA s.crosses.length cc)
  c2 : w.cell? ⟨CB, 2, none⟩ = some (.slice pA s.pins.length pc)
  fr : ∀ o, w.frozen? ⟨CB, o, none⟩ = false
  crosses : w.ownsRow W2.heap.size 91 4 (.slice cA s.crosses.length cc) s.crosses.length (crossCells s.crosses)
  pins : w.ownsRow W2.heap.size 94 4 (.slice pA s.pins.length pc) s.pins.length (pinCells s.pins)
  dis : ∀ k, (Value.slice cA s.crosses.length cc).ownBlock = some k → (Value.slice pA s.pins.length pc).ownBlock ≠ some k
  at_ : w.ownsRow 0 3 1 (.slice (some ⟨g, 0, none⟩) 4 gc) 4 (ints s.at_)
  atl : s.at_.length = 4
  size : W2.heap.size ≤ w.heap.size
  keep : ∀ b, b < W2.heap.size → b ≠ CB → b ≠ g → w.heap[b]? = W2.heap[b]?
  os : w.os = W2.os
  tape : w.tape = W2.tape
  output : w.output = W2.output

theorem own_some {A : Option Addr} {n c k : Nat} (h : (Value.slice A n c).ownBlock = some k) : ∃ a, A = some a ∧ a.block = k := by
  cases A with
  | none => cases h
  | some a => exact ⟨a, rfl, by simpa [Value.ownBlock] using h⟩
theorem MkAt.grow {W2 w w' : World} {CB g gc : Nat} {s : Mk} {cA : Option Addr} {cc : Nat} {pA : Option Addr} {pc : Nat} (h : MkAt W2 w CB g gc s cA cc pA pc) (hCB : CB < W2.heap.size) (hg : g < W2.heap.size) (hb : Below w.heap.size w w') : MkAt W2 w' CB g gc s cA cc pA pc := by
  have hs := h.size
  have eC : w'.heap[CB]? = w.heap[CB]? := hb.block CB (by omega)
  exact ⟨(World.cell?_of_block (a := ⟨CB, 0, none⟩) eC).trans h.c0, (World.cell?_of_block (a := ⟨CB, 1, none⟩) eC).trans h.c1, (World.cell?_of_block (a := ⟨CB, 2, none⟩) eC).trans h.c2, fun o => (World.frozen?_of_block (a := ⟨CB, o, none⟩) eC).trans (h.fr o),
    owns_keep h.crosses fun k hk => hb.block k (h.crosses.lt k hk).2, owns_keep h.pins fun k hk => hb.block k (h.pins.lt k hk).2, h.dis, owns_keep h.at_ fun k hk => hb.block k (h.at_.lt k hk).2, h.atl,
    Nat.le_trans hs hb.size, fun b h1 h2 h3 => (hb.block b (by omega)).trans (h.keep b h1 h2 h3), hb.os.trans h.os, hb.tape.trans h.tape, hb.output.trans h.output⟩
theorem MkAt.cross {W2 w w1 w2 : World} {CB g gc : Nat} {s : Mk} {cA : Option Addr} {cc : Nat} {pA : Option Addr} {pc : Nat} (h0 : MkAt W2 w CB g gc s cA cc pA pc) (hCB : CB < W2.heap.size) (hg : g < W2.heap.size) (hne : CB ≠ g) (hb : Below w.heap.size w w1) (x : Cross) {cg cap : Nat}
    (hown : w2.ownsRow W2.heap.size 91 4 (.slice (some ⟨cg, 0, none⟩) (s.crosses.length + 1) cap) (s.crosses.length + 1) (crossCells s.crosses ++ x.cells)) (hgr : w1.grownBy w2 (Value.slice cA s.crosses.length cc).ownBlock)
    (hor : (Value.slice cA s.crosses.length cc).ownBlock = some cg ∨ cg = w1.heap.size) :
    MkAt W2 (w2.setCell ⟨CB, 1, none⟩ (.slice (some ⟨cg, 0, none⟩) (s.crosses.length + 1) cap)) CB g gc { s with crosses := s.crosses ++ [x] } (some ⟨cg, 0, none⟩) cap pA pc := by
  have h := h0.grow hCB hg hb
  have hs := h.size
  have hgs := hgr.size
  have hlow : ∀ k, k < W2.heap.size → w2.heap[k]? = w1.heap[k]? := fun k hk => hgr.block k (by omega) fun e => by have := (h.crosses.lt k e.symm).1; omega
  have eC := hlow CB hCB
  have hk3 : ∀ k, k ≠ CB → (w2.setCell ⟨CB, 1, none⟩ (.slice (some ⟨cg, 0, none⟩) (s.crosses.length + 1) cap)).heap[k]? = w2.heap[k]? := fun k hk => Below.heap_setCell _ _ _ _ (by simpa using hk)
  have hpk : ∀ k, (Value.slice pA s.pins.length pc).ownBlock = some k → w2.heap[k]? = w1.heap[k]? := fun k hk => hgr.block k (h.pins.lt k hk).2 fun e => h.dis k e.symm hk
  have hsz : (w2.setCell ⟨CB, 1, none⟩ (.slice (some ⟨cg, 0, none⟩) (s.crosses.length + 1) cap)).heap.size = w2.heap.size := by simp [World.setCell]
  have hc1 : w2.cell? ⟨CB, 1, none⟩ = some (.slice cA s.crosses.length cc) := (World.cell?_of_block (a := ⟨CB, 1, none⟩) eC).trans h.c1
  have hln : (s.crosses ++ [x]).length = s.crosses.length + 1 := by simp
  refine ⟨?_, ?_, ?_, ?_, ?_, ?_, ?_, ?_, h.atl, by rw [hsz]; omega, ?_, hgr.os.trans h.os, hgr.tape.trans h.tape, hgr.output.trans h.output⟩
  · refine (World.cell?_setCell_other _ ⟨CB, 1, none⟩ ⟨CB, 0, none⟩ _ (by simp)).trans ?_; exact (World.cell?_of_block (a := ⟨CB, 0, none⟩) eC).trans h.c0
  · rw [World.cell?_setCell_same' _ _ _ (by rw [hc1]; rfl), hln]
  · refine (World.cell?_setCell_other _ ⟨CB, 1, none⟩ ⟨CB, 2, none⟩ _ (by simp)).trans ?_; exact (World.cell?_of_block (a := ⟨CB, 2, none⟩) eC).trans h.c2
  · intro o
    have := (World.frozen?_of_block (a := ⟨CB, o, none⟩) eC).trans (h.fr o)
    simpa using this
  · rw [hln, crossCells_snoc]
    refine owns_keep hown fun k hk => hk3 k ?_
    have := (hown.lt k hk).1; omega
  · refine owns_keep h.pins fun k hk => (hk3 k ?_).trans (hpk k hk)
    have := (h.pins.lt k hk).1; omega
  · intro k hk
    have : k = cg := by simpa [Value.ownBlock] using hk.symm
    subst this
    rcases hor with e | e
    · exact h.dis k e
    · intro hp
      have := (h.pins.lt k hp).2; omega
  · refine owns_keep h.at_ fun k hk => ?_
    have : k = g := by simpa [Value.ownBlock] using hk.symm
    subst this
    exact (hk3 k (Ne.symm hne)).trans (hlow k hg)
  · intro b h1 h2 h3
    exact (hk3 b h2).trans ((hlow b h1).trans (h.keep b h1 h2 h3))
theorem MkAt.pin {W2 w w1 w2 : World} {CB g gc : Nat} {s : Mk} {cA : Option Addr} {cc : Nat} {pA : Option Addr} {pc : Nat} (h0 : MkAt W2 w CB g gc s cA cc pA pc) (hCB : CB < W2.heap.size) (hg : g < W2.heap.size) (hne : CB ≠ g) (hb : Below w.heap.size w w1) (x : Pin) {cg cap : Nat}
    (hown : w2.ownsRow W2.heap.size 94 4 (.slice (some ⟨cg, 0, none⟩) (s.pins.length + 1) cap) (s.pins.length + 1) (pinCells s.pins ++ x.cells)) (hgr : w1.grownBy w2 (Value.slice pA s.pins.length pc).ownBlock)
    (hor : (Value.slice pA s.pins.length pc).ownBlock = some cg ∨ cg = w1.heap.size) :
    MkAt W2 (w2.setCell ⟨CB, 2, none⟩ (.slice (some ⟨cg, 0, none⟩) (s.pins.length + 1) cap)) CB g gc { s with pins := s.pins ++ [x] } cA cc (some ⟨cg, 0, none⟩) cap := by
  have h := h0.grow hCB hg hb
  have hs := h.size
  have hgs := hgr.size
  have hlow : ∀ k, k < W2.heap.size → w2.heap[k]? = w1.heap[k]? := fun k hk => hgr.block k (by omega) fun e => by have := (h.pins.lt k e.symm).1; omega
  have eC := hlow CB hCB
  have hk3 : ∀ k, k ≠ CB → (w2.setCell ⟨CB, 2, none⟩ (.slice (some ⟨cg, 0, none⟩) (s.pins.length + 1) cap)).heap[k]? = w2.heap[k]? := fun k hk => Below.heap_setCell _ _ _ _ (by simpa using hk)
  have hpk : ∀ k, (Value.slice cA s.crosses.length cc).ownBlock = some k → w2.heap[k]? = w1.heap[k]? := fun k hk => hgr.block k (h.crosses.lt k hk).2 fun e => h.dis k hk e.symm
  have hsz : (w2.setCell ⟨CB, 2, none⟩ (.slice (some ⟨cg, 0, none⟩) (s.pins.length + 1) cap)).heap.size = w2.heap.size := by simp [World.setCell]
  have hc2 : w2.cell? ⟨CB, 2, none⟩ = some (.slice pA s.pins.length pc) := (World.cell?_of_block (a := ⟨CB, 2, none⟩) eC).trans h.c2
  have hln : (s.pins ++ [x]).length = s.pins.length + 1 := by simp
  refine ⟨?_, ?_, ?_, ?_, ?_, ?_, ?_, ?_, h.atl, by rw [hsz]; omega, ?_, hgr.os.trans h.os, hgr.tape.trans h.tape, hgr.output.trans h.output⟩
  · refine (World.cell?_setCell_other _ ⟨CB, 2, none⟩ ⟨CB, 0, none⟩ _ (by simp)).trans ?_; exact (World.cell?_of_block (a := ⟨CB, 0, none⟩) eC).trans h.c0
  · refine (World.cell?_setCell_other _ ⟨CB, 2, none⟩ ⟨CB, 1, none⟩ _ (by simp)).trans ?_; exact (World.cell?_of_block (a := ⟨CB, 1, none⟩) eC).trans h.c1
  · rw [World.cell?_setCell_same' _ _ _ (by rw [hc2]; rfl), hln]
  · intro o
    have := (World.frozen?_of_block (a := ⟨CB, o, none⟩) eC).trans (h.fr o)
    simpa using this
  · refine owns_keep h.crosses fun k hk => (hk3 k ?_).trans (hpk k hk)
    have := (h.crosses.lt k hk).1; omega
  · rw [hln, pinCells_snoc]
    refine owns_keep hown fun k hk => hk3 k ?_
    have := (hown.lt k hk).1; omega
  · intro k hk hk2
    have : k = cg := by simpa [Value.ownBlock] using hk2.symm
    subst this
    rcases hor with e | e
    · exact h.dis k hk e
    · have := (h.crosses.lt k hk).2; omega
  · refine owns_keep h.at_ fun k hk => ?_
    have : k = g := by simpa [Value.ownBlock] using hk.symm
    subst this
    exact (hk3 k (Ne.symm hne)).trans (hlow k hg)
  · intro b h1 h2 h3
    exact (hk3 b h2).trans ((hlow b h1).trans (h.keep b h1 h2 h3))
theorem MkAt.swap {W2 w : World} {CB g gc : Nat} {s : Mk} {cA : Option Addr} {cc : Nat} {pA : Option Addr} {pc : Nat} (h : MkAt W2 w CB g gc s cA cc pA pc) (hCB : CB < W2.heap.size) (hg : g < W2.heap.size) (hne : CB ≠ g) (q : Nat) :
    MkAt W2 ((w.setCell ⟨g, q, none⟩ (.int .i64 (s.at_.getD (q + 1) 0))).setCell ⟨g, q + 1, none⟩ (.int .i64 (s.at_.getD q 0))) CB g gc { s with at_ := swapL s.at_ q } cA cc pA pc := by
  have hs := h.size
  have hk : ∀ k, k ≠ g → ((w.setCell ⟨g, q, none⟩ (.int .i64 (s.at_.getD (q + 1) 0))).setCell ⟨g, q + 1, none⟩ (.int .i64 (s.at_.getD q 0))).heap[k]? = w.heap[k]? := fun k hk =>
    (Below.heap_setCell _ _ _ _ (by simpa using hk)).trans (Below.heap_setCell _ _ _ _ (by simpa using hk))
  have hsz : ((w.setCell ⟨g, q, none⟩ (.int .i64 (s.at_.getD (q + 1) 0))).setCell ⟨g, q + 1, none⟩ (.int .i64 (s.at_.getD q 0))).heap.size = w.heap.size := by simp [World.setCell]
  have eC := hk CB hne
  refine ⟨(World.cell?_of_block (a := ⟨CB, 0, none⟩) eC).trans h.c0, (World.cell?_of_block (a := ⟨CB, 1, none⟩) eC).trans h.c1, (World.cell?_of_block (a := ⟨CB, 2, none⟩) eC).trans h.c2, fun o => (World.frozen?_of_block (a := ⟨CB, o, none⟩) eC).trans (h.fr o),
    owns_keep h.crosses fun k hk' => hk k ?_, owns_keep h.pins fun k hk' => hk k ?_, h.dis, ?_, by rw [swapL_length]; exact h.atl, by rw [hsz]; exact hs, fun b h1 h2 h3 => (hk b h3).trans (h.keep b h1 h2 h3), h.os, h.tape, h.output⟩
  · have := (h.crosses.lt k hk').1; omega
  · have := (h.pins.lt k hk').1; omega
  · rw [swapL, ints_set, ints_set]
    exact ((h.at_.stored q _).1.stored (q + 1) _).1
theorem MkAt.at_cell {W2 w : World} {CB g gc : Nat} {s : Mk} {cA : Option Addr} {cc : Nat} {pA : Option Addr} {pc : Nat} (h : MkAt W2 w CB g gc s cA cc pA pc) {q : Nat} (hq : q < 4) : w.cell? ⟨g, q, none⟩ = some (.int .i64 (s.at_.getD q 0)) := by
  rw [h.at_.cellAt q (by omega)]
  have := h.atl
  simp [ints, show q < s.at_.length by omega]
theorem MkAt.at_frozen {W2 w : World} {CB g gc : Nat} {s : Mk} {cA : Option Addr} {cc : Nat} {pA : Option Addr} {pc : Nat} (h : MkAt W2 w CB g gc s cA cc pA pc) (q : Nat) : w.frozen? ⟨g, q, none⟩ = false := h.at_.frozenAt q
end Go.Proofs.YtegbbkmppphddaaDoor
