/- A cloth in the making by the program: plain, and in memory. -/
import Derived.Test.YtegbbkmppphddaaTSheet
set_option linter.unusedVariables false
set_option linter.unusedSimpArgs false
namespace Go.Proofs.Ytegbbkmppphddaa
open Go.RowKit

/-! ### What Make makes -/
structure MkS where
  crosses : List Cross
  pins : List Pin
  line : List Int
def pinS (i mid : Int) (s : MkS) : MkS := { s with pins := s.pins ++ [⟨i, mid, s.line.getD mid.toNat 0, s.line.getD (mid.toNat + 1) 0⟩] }
def crossX (i : Int) (q : Nat) (s : MkS) (n : Int) : Cross := if n < 0 then ⟨i, q, s.line.getD (q + 1) 0, s.line.getD q 0⟩ else ⟨i, q, s.line.getD q 0, s.line.getD (q + 1) 0⟩
def crossQ (mid n : Int) : Nat := (mid - 2 + max n (-n)).toNat
def crossS (i mid : Int) (s : MkS) (n : Int) : MkS :=
  { crosses := s.crosses ++ [crossX i (crossQ mid n) s n], pins := s.pins, line := swapL s.line (crossQ mid n) }
def charS (i mid : Int) (s : MkS) (c : UInt8) : MkS := if c = 80 then pinS i mid s else (crossB c).foldl (crossS i mid) s
def startS (i : Int) (s : MkS) (x : Work) : MkS := if x.kind = 2 then pinS i (2 * x.at_ + 1) s else s
def workS (i : Int) (s : MkS) (x : Work) : MkS := x.word.data.toList.foldl (charS i (2 * x.at_ + 1)) (startS i s x)
def makeK (l : List Work) : Nat → MkS
  | 0 => ⟨[], [], iota 48⟩
  | k + 1 => workS k (makeK l k) (l.getD k default)
/-- The cloth of a sheet. -/
def makeC (s : Sheet) : Cloth := ⟨2 * s.pairs, (makeK s.works s.works.length).crosses, (makeK s.works s.works.length).pins⟩

theorem iota_get2 {k n : Nat} (h : k < n) : (iota n).getD k 0 = (k : Int) := by simp [iota, h]
structure MkS.ok (s : MkS) : Prop where
  len : s.line.length = 48
  line : ∀ k, 0 ≤ s.line.getD k 0 ∧ s.line.getD k 0 < 48
  crosses : ∀ x ∈ s.crosses, x.wf
  pins : ∀ x ∈ s.pins, x.wf
def MkS.sz (s : MkS) : Nat := s.crosses.length + s.pins.length
theorem start_ok (l : List Work) : (makeK l 0).ok := by
  refine ⟨by simp [makeK, iota_length], fun k => ?_, by simp [makeK], by simp [makeK]⟩
  simp only [makeK]
  by_cases hk : k < 48
  · rw [iota_get2 hk]; omega
  · rw [List.getD_eq_getElem?_getD, List.getElem?_eq_none (by rw [iota_length]; omega)]; simp
theorem pin_ok {s : MkS} (h : s.ok) {i mid : Int} (hi : 0 ≤ i ∧ i ≤ 1000) (hm : 0 ≤ mid ∧ mid < 48) : (pinS i mid s).ok ∧ (pinS i mid s).sz = s.sz + 1 := by
  refine ⟨⟨h.len, h.line, h.crosses, fun x hx => ?_⟩, by simp [pinS, MkS.sz]; omega⟩
  simp only [pinS, List.mem_append, List.mem_singleton] at hx
  rcases hx with hx | rfl
  · exact h.pins x hx
  · have h1 := h.line mid.toNat
    have h2 := h.line (mid.toNat + 1)
    unfold Pin.wf I64
    refine ⟨?_, ?_, ?_, ?_⟩ <;> simp only <;> omega
theorem swap_get {L : List Int} (h : ∀ k, 0 ≤ L.getD k 0 ∧ L.getD k 0 < 48) (q k : Nat) : 0 ≤ (swapL L q).getD k 0 ∧ (swapL L q).getD k 0 < 48 := by
  unfold swapL
  have h1 := h (q + 1)
  have h2 := h q
  have h3 := h k
  generalize L.getD (q + 1) 0 = a at *
  generalize L.getD q 0 = b at *
  rw [List.getD_eq_getElem?_getD] at *
  rw [List.getElem?_set]
  split
  · split <;> simp <;> omega
  · rw [List.getElem?_set]
    split
    · split <;> simp <;> omega
    · exact h3
theorem cross_ok {s : MkS} (h : s.ok) {i mid n : Int} (hi : 0 ≤ i ∧ i ≤ 1000) (hq : crossQ mid n < 47) : (crossS i mid s n).ok ∧ (crossS i mid s n).sz = s.sz + 1 := by
  refine ⟨⟨by simp only [crossS]; rw [swapL_length]; exact h.len, fun k => swap_get h.line _ k, fun x hx => ?_, h.pins⟩, by simp [crossS, MkS.sz]; omega⟩
  simp only [crossS, List.mem_append, List.mem_singleton] at hx
  rcases hx with hx | rfl
  · exact h.crosses x hx
  · have h1 := h.line (crossQ mid n)
    have h2 := h.line (crossQ mid n + 1)
    unfold crossX
    split <;> (unfold Cross.wf I64; refine ⟨?_, ?_, ?_, ?_⟩ <;> simp only <;> omega)

/-! ### In memory -/
def crossCells (l : List Cross) : List Value := l.flatMap Cross.cells
def pinCells (l : List Pin) : List Value := l.flatMap Pin.cells
theorem crossCells_snoc (l : List Cross) (x : Cross) : crossCells (l ++ [x]) = crossCells l ++ x.cells := by simp [crossCells]
theorem pinCells_snoc (l : List Pin) (x : Pin) : pinCells (l ++ [x]) = pinCells l ++ x.cells := by simp [pinCells]
theorem cross_ones (x : Cross) : ∀ u ∈ x.cells, u.oneCell' = true := by
  intro u hu
  simp [Cross.cells] at hu
  rcases hu with rfl | rfl | rfl | rfl <;> rfl
theorem pin_ones (x : Pin) : ∀ u ∈ x.cells, u.oneCell' = true := by
  intro u hu
  simp [Pin.cells] at hu
  rcases hu with rfl | rfl | rfl | rfl <;> rfl
/-- Cells row by row. -/
theorem flat_get {α : Type} (f : α → List Value) (sz : Nat) (hf : ∀ x, (f x).length = sz) : ∀ (l : List α) (i : Nat) (r : List Value), (l.map f)[i]? = some r → ∀ (j : Nat) (v : Value), r[j]? = some v → (l.flatMap f)[i * sz + j]? = some v
  | [], i, r, h, j, v, hv => by simp at h
  | a :: l, 0, r, h, j, v, hv => by
    have : r = f a := by simpa using h.symm
    subst this
    have hj : j < sz := by have := (List.getElem?_eq_some_iff.1 hv).1; rw [hf] at this; exact this
    rw [List.flatMap_cons, List.getElem?_append_left (by rw [hf]; omega)]
    simpa using hv
  | a :: l, i + 1, r, h, j, v, hv => by
    have := flat_get f sz hf l i r (by simpa using h) j v hv
    rw [List.flatMap_cons, List.getElem?_append_right (by rw [hf, Nat.add_mul]; omega), ← this]
    congr 1
    rw [hf, Nat.add_mul]; omega
theorem flat_length {α : Type} (f : α → List Value) (sz : Nat) (hf : ∀ x, (f x).length = sz) (l : List α) : (l.flatMap f).length = l.length * sz := by
  induction l with
  | nil => simp
  | cons a l ih => rw [List.flatMap_cons, List.length_append, ih, hf, List.length_cons, Nat.add_mul]; omega
theorem rows_of_ownsG {α : Type} (f : α → List Value) (sz : Nat) (hf : ∀ x, (f x).length = sz) {w : World} {base e : Nat} {A : Option Addr} {c : Nat} {l : List α} (h : w.ownsRow base e sz (.slice A l.length c) l.length (l.flatMap f)) :
    Rows w A sz (l.map f) ∧ l.length ≤ c ∧ c ≤ maxLen := by
  rcases h.2 with ⟨hv, h0⟩ | ⟨g, cap, cur, hv, hb, hg, h1, h2, h3, h4⟩
  · simp only [Value.slice.injEq] at hv
    obtain ⟨rfl, -, rfl⟩ := hv
    obtain rfl := List.eq_nil_of_length_eq_zero h0
    exact ⟨.inl rfl, by simp, by unfold maxLen; omega⟩
  · simp only [Value.slice.injEq] at hv
    obtain ⟨rfl, -, rfl⟩ := hv
    refine ⟨.inr ⟨g, 0, rfl, (Array.getElem?_eq_some_iff.1 hg).1, fun i r hr j v hv => ?_⟩, h1, h2⟩
    have hget := flat_get f sz hf l i r hr j v hv
    have hlt := (List.getElem?_eq_some_iff.1 hget).1
    rw [flat_length f sz hf] at hlt
    have := h.cellAt (i * sz + j) hlt
    rw [Nat.zero_add, this]
    exact hget


/-- The cloth in block CB, its line in block LB; S: blocks that nothing touches since W1. -/
structure MkP (W0 W1 w : World) (B0 CB LB : Nat) (S : List Nat) (th : Int) (s : MkS) (cA : Option Addr) (cc : Nat) (pA : Option Addr) (pc : Nat) : Prop where
  c0 : w.cell? ⟨CB, 0, none⟩ = some (.int .i64 th)
  c1 : w.cell? ⟨CB, 1, none⟩ = some (.slice cA s.crosses.length cc)
  c2 : w.cell? ⟨CB, 2, none⟩ = some (.slice pA s.pins.length pc)
  fr : ∀ o, w.frozen? ⟨CB, o, none⟩ = false
  crosses : w.ownsRow B0 66 4 (.slice cA s.crosses.length cc) s.crosses.length (crossCells s.crosses)
  pins : w.ownsRow B0 63 4 (.slice pA s.pins.length pc) s.pins.length (pinCells s.pins)
  dis : ∀ k, (Value.slice cA s.crosses.length cc).ownBlock = some k → (Value.slice pA s.pins.length pc).ownBlock ≠ some k
  line : LineAt w LB s.line
  size : B0 ≤ w.heap.size
  keep : ∀ b, b < B0 → b ≠ CB → b ≠ LB → w.heap[b]? = W0.heap[b]?
  boxes : ∀ b ∈ S, B0 ≤ b ∧ b < w.heap.size ∧ w.heap[b]? = W1.heap[b]? ∧ (Value.slice cA s.crosses.length cc).ownBlock ≠ some b ∧ (Value.slice pA s.pins.length pc).ownBlock ≠ some b
  os : w.os = W0.os
  tape : w.tape = W0.tape
  output : w.output = W0.output
section
variable {W0 W1 w w1 w2 : World} {B0 CB LB : Nat} {S : List Nat} {th : Int} {s : MkS} {cA : Option Addr} {cc : Nat} {pA : Option Addr} {pc : Nat}
theorem MkP.grow (h : MkP W0 W1 w B0 CB LB S th s cA cc pA pc) (hCB : CB < B0) (hLB : LB < B0) (hb : Below w.heap.size w w1) : MkP W0 W1 w1 B0 CB LB S th s cA cc pA pc := by
  have hs := h.size
  have eC : w1.heap[CB]? = w.heap[CB]? := hb.block CB (by omega)
  exact ⟨(World.cell?_of_block (a := ⟨CB, 0, none⟩) eC).trans h.c0, (World.cell?_of_block (a := ⟨CB, 1, none⟩) eC).trans h.c1, (World.cell?_of_block (a := ⟨CB, 2, none⟩) eC).trans h.c2, fun o => (World.frozen?_of_block (a := ⟨CB, o, none⟩) eC).trans (h.fr o),
    owns_keep h.crosses fun k hk => hb.block k (h.crosses.lt k hk).2, owns_keep h.pins fun k hk => hb.block k (h.pins.lt k hk).2, h.dis, h.line.of_block (hb.block LB (by omega)), Nat.le_trans hs hb.size,
    fun b h1 h2 h3 => (hb.block b (by omega)).trans (h.keep b h1 h2 h3), fun b hb' => by
      obtain ⟨q1, q2, q3, q4, q5⟩ := h.boxes b hb'
      exact ⟨q1, Nat.lt_of_lt_of_le q2 hb.size, (hb.block b q2).trans q3, q4, q5⟩, hb.os.trans h.os, hb.tape.trans h.tape, hb.output.trans h.output⟩
theorem MkP.cross (h0 : MkP W0 W1 w B0 CB LB S th s cA cc pA pc) (hCB : CB < B0) (hLB : LB < B0) (hne : CB ≠ LB) (hb : Below w.heap.size w w1) (x : Cross) {cg cap : Nat}
    (hown : w2.ownsRow B0 66 4 (.slice (some ⟨cg, 0, none⟩) (s.crosses.length + 1) cap) (s.crosses.length + 1) (crossCells s.crosses ++ x.cells)) (hgr : w1.grownBy w2 (Value.slice cA s.crosses.length cc).ownBlock)
    (hor : (Value.slice cA s.crosses.length cc).ownBlock = some cg ∨ cg = w1.heap.size) :
    MkP W0 W1 (w2.setCell ⟨CB, 1, none⟩ (.slice (some ⟨cg, 0, none⟩) (s.crosses.length + 1) cap)) B0 CB LB S th { s with crosses := s.crosses ++ [x] } (some ⟨cg, 0, none⟩) cap pA pc := by
  have h := h0.grow hCB hLB hb
  have hs := h.size
  have hgs := hgr.size
  have hlow : ∀ k, k < B0 → w2.heap[k]? = w1.heap[k]? := fun k hk => hgr.block k (by omega) fun e => by have := (h.crosses.lt k e.symm).1; omega
  have eC := hlow CB hCB
  have hk3 : ∀ k, k ≠ CB → (w2.setCell ⟨CB, 1, none⟩ (.slice (some ⟨cg, 0, none⟩) (s.crosses.length + 1) cap)).heap[k]? = w2.heap[k]? := fun k hk => Below.heap_setCell _ _ _ _ (by simpa using hk)
  have hpk : ∀ k, (Value.slice pA s.pins.length pc).ownBlock = some k → w2.heap[k]? = w1.heap[k]? := fun k hk => hgr.block k (h.pins.lt k hk).2 fun e => h.dis k e.symm hk
  have hsz : (w2.setCell ⟨CB, 1, none⟩ (.slice (some ⟨cg, 0, none⟩) (s.crosses.length + 1) cap)).heap.size = w2.heap.size := by simp [World.setCell]
  have hc1 : w2.cell? ⟨CB, 1, none⟩ = some (.slice cA s.crosses.length cc) := (World.cell?_of_block (a := ⟨CB, 1, none⟩) eC).trans h.c1
  have hln : (s.crosses ++ [x]).length = s.crosses.length + 1 := by simp
  refine ⟨?_, ?_, ?_, ?_, ?_, ?_, ?_, ?_, by rw [hsz]; omega, ?_, ?_, hgr.os.trans h.os, hgr.tape.trans h.tape, hgr.output.trans h.output⟩
  · refine (World.cell?_setCell_other _ ⟨CB, 1, none⟩ ⟨CB, 0, none⟩ _ (by simp)).trans ?_; exact (World.cell?_of_block (a := ⟨CB, 0, none⟩) eC).trans h.c0
  · rw [World.cell?_setCell_same' _ _ _ (by rw [hc1]; rfl), hln]
  · refine (World.cell?_setCell_other _ ⟨CB, 1, none⟩ ⟨CB, 2, none⟩ _ (by simp)).trans ?_; exact (World.cell?_of_block (a := ⟨CB, 2, none⟩) eC).trans h.c2
  · intro o
    have := (World.frozen?_of_block (a := ⟨CB, o, none⟩) eC).trans (h.fr o)
    simpa using this
  · rw [hln, crossCells_snoc]
    refine owns_keep hown fun k hk => hk3 k ?_
    have := (hown.lt k hk).1; omega
  · refine owns_keep h.pins fun k hk => (hk3 k ?_).trans (hpk k hk)
    have := (h.pins.lt k hk).1; omega
  · intro k hk
    have : k = cg := by simpa [Value.ownBlock] using hk.symm
    subst this
    rcases hor with e | e
    · exact h.dis k e
    · intro hp
      have := (h.pins.lt k hp).2; omega
  · exact h.line.of_block ((hk3 LB (Ne.symm hne)).trans (hlow LB hLB))
  · intro b h1 h2 h3
    exact (hk3 b h2).trans ((hlow b h1).trans (h.keep b h1 h2 h3))
  · intro b hb'
    obtain ⟨q1, q2, q3, q4, q5⟩ := h.boxes b hb'
    have hbC : b ≠ CB := by omega
    refine ⟨q1, by rw [hsz]; omega, (hk3 b hbC).trans ((hgr.block b q2 fun e => q4 e.symm).trans q3), ?_, q5⟩
    intro e
    have : b = cg := by simpa [Value.ownBlock] using e.symm
    subst this
    rcases hor with e | e
    · exact q4 e
    · omega
theorem MkP.pin (h0 : MkP W0 W1 w B0 CB LB S th s cA cc pA pc) (hCB : CB < B0) (hLB : LB < B0) (hne : CB ≠ LB) (hb : Below w.heap.size w w1) (x : Pin) {cg cap : Nat}
    (hown : w2.ownsRow B0 63 4 (.slice (some ⟨cg, 0, none⟩) (s.pins.length + 1) cap) (s.pins.length + 1) (pinCells s.pins ++ x.cells)) (hgr : w1.grownBy w2 (Value.slice pA s.pins.length pc).ownBlock)
    (hor : (Value.slice pA s.pins.length pc).ownBlock = some cg ∨ cg = w1.heap.size) :
    MkP W0 W1 (w2.setCell ⟨CB, 2, none⟩ (.slice (some ⟨cg, 0, none⟩) (s.pins.length + 1) cap)) B0 CB LB S th { s with pins := s.pins ++ [x] } cA cc (some ⟨cg, 0, none⟩) cap := by
  have h := h0.grow hCB hLB hb
  have hs := h.size
  have hgs := hgr.size
  have hlow : ∀ k, k < B0 → w2.heap[k]? = w1.heap[k]? := fun k hk => hgr.block k (by omega) fun e => by have := (h.pins.lt k e.symm).1; omega
  have eC := hlow CB hCB
  have hk3 : ∀ k, k ≠ CB → (w2.setCell ⟨CB, 2, none⟩ (.slice (some ⟨cg, 0, none⟩) (s.pins.length + 1) cap)).heap[k]? = w2.heap[k]? := fun k hk => Below.heap_setCell _ _ _ _ (by simpa using hk)
  have hpk : ∀ k, (Value.slice cA s.crosses.length cc).ownBlock = some k → w2.heap[k]? = w1.heap[k]? := fun k hk => hgr.block k (h.crosses.lt k hk).2 fun e => h.dis k hk e.symm
  have hsz : (w2.setCell ⟨CB, 2, none⟩ (.slice (some ⟨cg, 0, none⟩) (s.pins.length + 1) cap)).heap.size = w2.heap.size := by simp [World.setCell]
  have hc2 : w2.cell? ⟨CB, 2, none⟩ = some (.slice pA s.pins.length pc) := (World.cell?_of_block (a := ⟨CB, 2, none⟩) eC).trans h.c2
  have hln : (s.pins ++ [x]).length = s.pins.length + 1 := by simp
  refine ⟨?_, ?_, ?_, ?_, ?_, ?_, ?_, ?_, by rw [hsz]; omega, ?_, ?_, hgr.os.trans h.os, hgr.tape.trans h.tape, hgr.output.trans h.output⟩
  · refine (World.cell?_setCell_other _ ⟨CB, 2, none⟩ ⟨CB, 0, none⟩ _ (by simp)).trans ?_; exact (World.cell?_of_block (a := ⟨CB, 0, none⟩) eC).trans h.c0
  · refine (World.cell?_setCell_other _ ⟨CB, 2, none⟩ ⟨CB, 1, none⟩ _ (by simp)).trans ?_; exact (World.cell?_of_block (a := ⟨CB, 1, none⟩) eC).trans h.c1
  · rw [World.cell?_setCell_same' _ _ _ (by rw [hc2]; rfl), hln]
  · intro o
    have := (World.frozen?_of_block (a := ⟨CB, o, none⟩) eC).trans (h.fr o)
    simpa using this
  · refine owns_keep h.crosses fun k hk => (hk3 k ?_).trans (hpk k hk)
    have := (h.crosses.lt k hk).1; omega
  · rw [hln, pinCells_snoc]
    refine owns_keep hown fun k hk => hk3 k ?_
    have := (hown.lt k hk).1; omega
  · intro k hk hk2
    have : k = cg := by simpa [Value.ownBlock] using hk2.symm
    subst this
    rcases hor with e | e
    · exact h.dis k hk e
    · have := (h.crosses.lt k hk).2; omega
  · exact h.line.of_block ((hk3 LB (Ne.symm hne)).trans (hlow LB hLB))
  · intro b h1 h2 h3
    exact (hk3 b h2).trans ((hlow b h1).trans (h.keep b h1 h2 h3))
  · intro b hb'
    obtain ⟨q1, q2, q3, q4, q5⟩ := h.boxes b hb'
    have hbC : b ≠ CB := by omega
    refine ⟨q1, by rw [hsz]; omega, (hk3 b hbC).trans ((hgr.block b q2 fun e => q5 e.symm).trans q3), q4, ?_⟩
    intro e
    have : b = cg := by simpa [Value.ownBlock] using e.symm
    subst this
    rcases hor with e | e
    · exact q5 e
    · omega
theorem MkP.swap (h : MkP W0 W1 w B0 CB LB S th s cA cc pA pc) (hCB : CB < B0) (hLB : LB < B0) (hne : CB ≠ LB) {L : List Int} (hl : LineAt w1 LB L) (hg : w.grownBy w1 (some LB)) : MkP W0 W1 w1 B0 CB LB S th { s with line := L } cA cc pA pc := by
  have hs := h.size
  have hk : ∀ k, k < w.heap.size → k ≠ LB → w1.heap[k]? = w.heap[k]? := fun k h1 h2 => hg.block k h1 (by simpa using h2)
  have eC := hk CB (by omega) hne
  refine ⟨(World.cell?_of_block (a := ⟨CB, 0, none⟩) eC).trans h.c0, (World.cell?_of_block (a := ⟨CB, 1, none⟩) eC).trans h.c1, (World.cell?_of_block (a := ⟨CB, 2, none⟩) eC).trans h.c2, fun o => (World.frozen?_of_block (a := ⟨CB, o, none⟩) eC).trans (h.fr o),
    owns_keep h.crosses fun k hk' => hk k (h.crosses.lt k hk').2 ?_, owns_keep h.pins fun k hk' => hk k (h.pins.lt k hk').2 ?_, h.dis, hl, Nat.le_trans hs hg.size, fun b h1 h2 h3 => (hk b (by omega) h3).trans (h.keep b h1 h2 h3), fun b hb' => ?_, hg.os.trans h.os, hg.tape.trans h.tape, hg.output.trans h.output⟩
  · have := (h.crosses.lt k hk').1; omega
  · have := (h.pins.lt k hk').1; omega
  · obtain ⟨q1, q2, q3, q4, q5⟩ := h.boxes b hb'
    exact ⟨q1, Nat.lt_of_lt_of_le q2 hg.size, (hk b q2 (by omega)).trans q3, q4, q5⟩
/-- New blocks are taken under guard. -/
theorem MkP.open_ (h : MkP W0 W1 w B0 CB LB [] th s cA cc pA pc) (hCB : CB < B0) (hLB : LB < B0) (hb : Below w.heap.size w w1) {S' : List Nat} (hS : ∀ b ∈ S', w.heap.size ≤ b ∧ b < w1.heap.size) : MkP W0 w1 w1 B0 CB LB S' th s cA cc pA pc := by
  have h1 := h.grow hCB hLB hb
  refine ⟨h1.c0, h1.c1, h1.c2, h1.fr, h1.crosses, h1.pins, h1.dis, h1.line, h1.size, h1.keep, fun b hb' => ?_, h1.os, h1.tape, h1.output⟩
  obtain ⟨q1, q2⟩ := hS b hb'
  exact ⟨Nat.le_trans h.size q1, q2, rfl, fun e => by have := (h.crosses.lt b e).2; omega, fun e => by have := (h.pins.lt b e).2; omega⟩
theorem MkP.close (h : MkP W0 W1 w B0 CB LB S th s cA cc pA pc) (W1' : World) : MkP W0 W1' w B0 CB LB [] th s cA cc pA pc :=
  ⟨h.c0, h.c1, h.c2, h.fr, h.crosses, h.pins, h.dis, h.line, h.size, h.keep, (by intro b hb; cases hb), h.os, h.tape, h.output⟩
theorem MkP.below (h : MkP W0 W1 w B0 CB LB S th s cA cc pA pc) {B : Nat} (hB : B ≤ B0) (h1 : B ≤ CB) (h2 : B ≤ LB) (h0 : W0.heap.size ≤ B0) : Below B W0 w :=
  ⟨h.os, h.tape, h.output, Nat.le_trans h0 h.size, fun k hk => h.keep k (by omega) (by omega) (by omega)⟩
theorem MkP.box (h : MkP W0 W1 w B0 CB LB S th s cA cc pA pc) {b : Nat} (hb : b ∈ S) (o : Nat) {v : Value} (hv : W1.cell? ⟨b, o, none⟩ = some v) : w.cell? ⟨b, o, none⟩ = some v :=
  (World.cell?_of_block (a := ⟨b, o, none⟩) (h.boxes b hb).2.2.1).trans hv
end
end Go.Proofs.Ytegbbkmppphddaa
