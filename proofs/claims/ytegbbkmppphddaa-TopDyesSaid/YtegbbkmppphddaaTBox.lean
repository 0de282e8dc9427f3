/- A task in a block, and a row that grows in one of its cells. -/
import Derived.Test.YtegbbkmppphddaaTAwake
import Derived.Test.YtegbbkmppphddaaTHid
import Derived.Test.YtegbbkmppphddaaRefSheet
import Derived.Test.YtegbbkmppphddaaDyCheckAny
import Derived.Test.YtegbbkmppphddaaLeast
set_option linter.unusedVariables false
set_option linter.unusedSimpArgs false
namespace Go.Proofs.Ytegbbkmppphddaa
open Go.RowKit

/-- A task that lies in a block. -/
structure TaskBox (w : World) (B : Nat) (cA : Option Addr) (cc : Nat) (pA : Option Addr) (pc : Nat) (wA : Option Addr) (wc : Nat) (uA : Option Addr) (uc : Nat) (t : Task) : Prop where
  lt : B < w.heap.size
  z0 : w.cell? ⟨B, 0, none⟩ = some (.int .i64 t.cloth.threads)
  z1 : w.cell? ⟨B, 1, none⟩ = some (.slice cA t.cloth.crosses.length cc)
  z2 : w.cell? ⟨B, 2, none⟩ = some (.slice pA t.cloth.pins.length pc)
  z3 : w.cell? ⟨B, 3, none⟩ = some (.slice wA t.wishes.length wc)
  z4 : w.cell? ⟨B, 4, none⟩ = some (.slice uA t.unlike.length uc)
  z5 : w.cell? ⟨B, 5, none⟩ = some (.int .i64 t.s0)
  z6 : w.cell? ⟨B, 6, none⟩ = some (.int .i64 t.s1)
  z7 : w.cell? ⟨B, 7, none⟩ = some (.int .i64 t.s2)
  z8 : w.cell? ⟨B, 8, none⟩ = some (.int .i64 t.s3)
  z9 : w.cell? ⟨B, 9, none⟩ = some (.int .i64 t.s4)
  z10 : w.cell? ⟨B, 10, none⟩ = some (.int .i64 t.s5)
theorem TaskBox.below {w w' : World} {B : Nat} {cA : Option Addr} {cc : Nat} {pA : Option Addr} {pc : Nat} {wA : Option Addr} {wc : Nat} {uA : Option Addr} {uc : Nat} {t : Task} (h : TaskBox w B cA cc pA pc wA wc uA uc t) (hb : Below w.heap.size w w') : TaskBox w' B cA cc pA pc wA wc uA uc t :=
  have k : ∀ o, w'.cell? ⟨B, o, none⟩ = w.cell? ⟨B, o, none⟩ := fun o => hb.cell (p := ⟨B, o, none⟩) h.lt
  ⟨Nat.lt_of_lt_of_le h.lt hb.size, (k 0).trans h.z0, (k 1).trans h.z1, (k 2).trans h.z2, (k 3).trans h.z3, (k 4).trans h.z4, (k 5).trans h.z5, (k 6).trans h.z6, (k 7).trans h.z7, (k 8).trans h.z8, (k 9).trans h.z9, (k 10).trans h.z10⟩

/-- A row of pairs of cells in the making, in cell o of block OB. -/
structure RowIn (W0 w : World) (OB o e n : Nat) (xs : List Value) (A : Option Addr) (c : Nat) : Prop where
  cell : w.cell? ⟨OB, o, none⟩ = some (.slice A n c)
  fr : ∀ k, w.frozen? ⟨OB, k, none⟩ = W0.frozen? ⟨OB, k, none⟩
  oth : ∀ k, k ≠ o → w.cell? ⟨OB, k, none⟩ = W0.cell? ⟨OB, k, none⟩
  own : w.ownsRow W0.heap.size e 2 (.slice A n c) n xs
  keep : ∀ b, b < W0.heap.size → b ≠ OB → w.heap[b]? = W0.heap[b]?
  size : W0.heap.size ≤ w.heap.size
  os : w.os = W0.os
  tape : w.tape = W0.tape
  output : w.output = W0.output
theorem RowIn.start {W0 : World} {OB o e c : Nat} {A : Option Addr} (h : W0.cell? ⟨OB, o, none⟩ = some (.slice none 0 0)) : RowIn W0 W0 OB o e 0 [] none 0 :=
  ⟨h, fun _ => rfl, fun _ _ => rfl, World.ownsRow_nil _ _ _ _, fun _ _ _ => rfl, Nat.le_refl _, rfl, rfl, rfl⟩
theorem RowIn.below {W0 w : World} {OB o e n c : Nat} {xs : List Value} {A : Option Addr} (h : RowIn W0 w OB o e n xs A c) (hO : OB < W0.heap.size) : Below OB W0 w :=
  ⟨h.os, h.tape, h.output, h.size, fun b hb => h.keep b (by omega) (by omega)⟩
theorem RowIn.grow {W0 w w1 : World} {OB o e n c : Nat} {xs : List Value} {A : Option Addr} (h : RowIn W0 w OB o e n xs A c) (hO : OB < W0.heap.size) (hb : Below w.heap.size w w1) : RowIn W0 w1 OB o e n xs A c := by
  have hs := h.size
  have e1 := hb.block OB (by omega)
  exact ⟨(World.cell?_of_block (a := ⟨OB, o, none⟩) e1).trans h.cell, fun k => (World.frozen?_of_block (a := ⟨OB, k, none⟩) e1).trans (h.fr k), fun k hk => (World.cell?_of_block (a := ⟨OB, k, none⟩) e1).trans (h.oth k hk), owns_keep h.own fun k hk => hb.block k (h.own.lt k hk).2, fun b h1 h2 => (hb.block b (by omega)).trans (h.keep b h1 h2), Nat.le_trans hs hb.size, hb.os.trans h.os, hb.tape.trans h.tape, hb.output.trans h.output⟩
theorem RowIn.put {W0 w w1 w2 : World} {OB o e n n' c c' : Nat} {xs xs' : List Value} {A A' : Option Addr} (h0 : RowIn W0 w OB o e n xs A c) (hO : OB < W0.heap.size) (hb : Below w.heap.size w w1) (hown : w2.ownsRow W0.heap.size e 2 (.slice A' n' c') n' xs') (hg : w1.grownBy w2 (Value.slice A n c).ownBlock) :
    RowIn W0 (w2.setCell ⟨OB, o, none⟩ (.slice A' n' c')) OB o e n' xs' A' c' := by
  have h := h0.grow hO hb
  have hs := h.size
  have hgs := hg.size
  have hlow : ∀ k, k < W0.heap.size → w2.heap[k]? = w1.heap[k]? := fun k hk => hg.block k (by omega) fun e => by have := (h.own.lt k e.symm).1; omega
  have hk3 : ∀ k, k ≠ OB → (w2.setCell ⟨OB, o, none⟩ (.slice A' n' c')).heap[k]? = w2.heap[k]? := fun k hk => Below.heap_setCell _ _ _ _ (by simpa using hk)
  have hc1 : w2.cell? ⟨OB, o, none⟩ = some (.slice A n c) := (World.cell?_of_block (a := ⟨OB, o, none⟩) (hlow OB hO)).trans h.cell
  refine ⟨World.cell?_setCell_same' _ _ _ (by rw [hc1]; rfl), fun k => ?_, fun k hk => ?_, owns_keep hown fun k hk => hk3 k ?_, fun b h1 h2 => (hk3 b h2).trans ((hlow b h1).trans (h.keep b h1 h2)), by simp only [World.size_setCell]; omega, hg.os.trans h.os, hg.tape.trans h.tape, hg.output.trans h.output⟩
  · have := (World.frozen?_of_block (a := ⟨OB, k, none⟩) (hlow OB hO)).trans (h.fr k)
    simpa using this
  · have := (World.cell?_of_block (a := ⟨OB, k, none⟩) (hlow OB hO)).trans (h.oth k hk)
    exact (World.cell?_setCell_other _ ⟨OB, o, none⟩ ⟨OB, k, none⟩ _ (by simp [hk])).trans this
  · have := (hown.lt k hk).1; omega
theorem lit_two (w : World) (a b : Value) (ty : TypeId) : ∀ j u, ([a, b] : List Value)[j]? = some u → ((w.alloc (.cells #[a, b] ty)).drew).cell? ((⟨w.heap.size, 0, none⟩ : Addr).add j) = some u := by
  intro j u h
  have hj : j < 2 := by have := (List.getElem?_eq_some_iff.1 h).1; simpa using this
  have hj' : j = 0 ∨ j = 1 := by omega
  rcases hj' with rfl | rfl
  all_goals
    simp at h
    subst h
    simp [Addr.add]
theorem info_wish : (Try.prog.info? 43).map (fun i => (i.zero, i.size, i.bytes)) = some (some (.agg #[.int .i64 0, .int .u8 0]), 2, 16) := by kernel_rfl
theorem info_two : (Try.prog.info? 46).map (fun i => (i.zero, i.size, i.bytes)) = some (some (.agg #[.int .i64 0, .int .i64 0]), 2, 16) := by kernel_rfl
theorem Wish.ones (ws : Wish) : ∀ u ∈ ws.cells, u.oneCell' = true := by
  intro u hu
  simp [Wish.cells] at hu
  rcases hu with rfl | rfl <;> rfl
theorem two_ones (x : Int × Int) : ∀ u ∈ pairCells x, u.oneCell' = true := by
  intro u hu
  simp [pairCells] at hu
  rcases hu with rfl | rfl <;> rfl
theorem flat_snoc {α : Type} (f : α → List Value) (l : List α) (x : α) : (l ++ [x]).flatMap f = l.flatMap f ++ f x := by simp

/-- What an arrangement says of one wish and of one pair. -/
theorem solve_ok {t : Task} (h : (solveR t).2 = 0) : taskB t = 0 ∧ Arr t (solveR t).1 := by
  unfold solveR at h ⊢
  split at h
  · rename_i h1; exact absurd h h1
  · rename_i h1
    have h1 : taskB t = 0 := by omega
    refine ⟨h1, ?_⟩
    rw [if_neg (by simp [h1])]
    cases hs : solveB t t.cloth.threads.toNat [] with
    | none => rw [hs] at h; simp [resOf] at h
    | some l => exact solve_arr (taskB_ok h1) hs
theorem solve_no {t : Task} (h : (solveR t).2 ≠ 0) (h4 : (solveR t).2 ≠ 4) : taskB t = (solveR t).2 := by
  unfold solveR at h h4 ⊢
  split
  · rfl
  · rename_i h1
    rw [if_neg h1] at h h4
    cases hs : solveB t t.cloth.threads.toNat [] with
    | none => rw [hs] at h4; simp [resOf] at h4
    | some l => rw [hs] at h; simp [resOf] at h
theorem taskB_cloth {t : Task} (h : taskB t = 0) : clothB t.cloth = 0 := by
  unfold taskB at h
  split at h
  · rename_i h0; exact absurd h h0
  · rename_i h0; omega
end Go.Proofs.Ytegbbkmppphddaa
