/- From the argument of the top's law, that reads as data, to its cells. -/
import Derived.ProofKit
import Derived.OpenShut
import Derived.Deep.Slices
import Derived.Lib.SmallJoins
import Derived.Lib.LaidTab
import Derived.Test.YtegbbkmppphddaaTTop
set_option linter.unusedVariables false
set_option linter.unusedSimpArgs false
namespace Go.Proofs.Ytegbbkmppphddaa
open Go.RowKit Go.ChangeShapes Go.WideShapes

theorem cell_spot {w : World} {a : Addr} {v : Value} (h : w.cell? a = some v) : ∃ b off, a = ⟨b, off, none⟩ ∧ b < w.heap.size := by
  obtain ⟨b, off, s⟩ := a
  cases s with
  | none => exact ⟨b, off, rfl, cell_lt h⟩
  | some s =>
    simp [World.cell?] at h
    split at h <;> simp at h

theorem wf_i64 {n : Int} (h : (Lit.int .i64 n).wf = true) : I64 n := by
  unfold I64
  simp [Lit.wf] at h
  exact ⟨h.1, h.2⟩
section
variable {H : Type} {enc : TypeId × Value → H} {P : Program} {w : World} {held : Bool}

theorem open_rows {α : Type} [Inhabited α] (f : α → List Value) (wf : α → Prop) (sz : Nat) (hsz : 0 < sz) (hf : ∀ y, (f y).length = sz) {t e : TypeId} (ht : P.underlying t = some (.slice e)) (hc : P.cellsOf e = sz)
    (hel : ∀ (n : Nat) (cs : List Value) (x : DataW H × List MemPlace), DataW.trod enc P w 0 (fun _ => true) held n e cs = some x → ∃ y : α, cs = f y ∧ wf y)
    {fuel : Nat} {cs : List Value} {x : DataW H × List MemPlace} (h : DataW.trod enc P w 0 (fun _ => true) held fuel t cs = some x) :
    ∃ (A : Option Addr) (l : List α) (cap : Nat), cs = [.slice A l.length cap] ∧ Rows w A sz (l.map f) ∧ l.length ≤ cap ∧ cap ≤ maxLen ∧ (A = none → cap = 0) ∧ ∀ y ∈ l, wf y := by
  rcases Go.Deep.open_slice ht h with ⟨rfl, -⟩ | ⟨a, len, cap, m, n, D, Pl, rfl, -, hl, hm, hmm, -, hall⟩
  · exact ⟨none, [], 0, rfl, .inl rfl, Nat.le_refl _, by unfold maxLen; omega, fun _ => rfl, fun y hy => by cases hy⟩
  · have hm' : m = cap := by simpa using hmm
    subst hm'
    rw [hc] at hall
    have : ∀ i, i < len → ∃ y : α, w.cells? 0 (a.add (i * sz)) sz = some (f y) ∧ wf y := fun i hi => by
      obtain ⟨cs', h1, h2⟩ := hall i (by omega)
      obtain ⟨y, rfl, hw⟩ := hel _ _ _ h2
      exact ⟨y, h1, hw⟩
    obtain ⟨Y, hY⟩ := Go.Deep.choose_lt this
    refine ⟨some a, (List.range len).map Y, m, by simp, ?_, by simpa using hl, hm, by simp, fun y hy => ?_⟩
    · by_cases h0 : len = 0
      · subst h0; exact .inl rfl
      · right
        obtain ⟨-, -, hcell⟩ := World.cells?_some (hY 0 (by omega)).1
        have h00 := hcell 0 hsz
        have hl0 : 0 < (f (Y 0)).length := by rw [hf]; exact hsz
        rw [List.getElem?_eq_getElem hl0] at h00
        have e0 : ((a.add (0 * sz)).add 0) = a := by simp [Addr.add]
        rw [e0] at h00
        obtain ⟨b, off, rfl, hlt⟩ := cell_spot h00
        refine ⟨b, off, rfl, hlt, fun i r hr j v hv => ?_⟩
        have hi : i < len := by have := (List.getElem?_eq_some_iff.1 hr).1; simpa using this
        have hr' : r = f (Y i) := by simpa [hi] using hr.symm
        subst hr'
        have hj : j < sz := by have := (List.getElem?_eq_some_iff.1 hv).1; rwa [hf] at this
        obtain ⟨-, -, hcell⟩ := World.cells?_some (hY i hi).1
        have := hcell j hj
        rw [hv, Go.Deep.add_add] at this
        rw [← this]
        unfold Addr.add
        split
        · rename_i hz; simp [hz, Nat.add_assoc]
        · simp [Nat.add_assoc]
    · simp only [List.mem_map, List.mem_range] at hy
      obtain ⟨i, hi, rfl⟩ := hy
      exact (hY i hi).2

theorem list4 {cs : List Value} (h : cs.length = 4) : ∃ a b c d, cs = [a, b, c, d] := by
  match cs, h with
  | [a, b, c, d], _ => exact ⟨a, b, c, d, rfl⟩
theorem list2 {cs : List Value} (h : cs.length = 2) : ∃ a b, cs = [a, b] := by
  match cs, h with
  | [a, b], _ => exact ⟨a, b, rfl⟩
end

theorem list3 {cs : List Value} (h : cs.length = 3) : ∃ a b c, cs = [a, b, c] := by
  match cs, h with
  | [a, b, c], _ => exact ⟨a, b, c, rfl⟩
section
variable {H : Type} {enc : TypeId × Value → H} {w : World} {held : Bool}
theorem fWish {n : Nat} {cs : List Value} {x : DataW H × List MemPlace} (h : DataW.trod enc Try.prog w 0 (fun _ => true) held n 43 cs = some x) : ∃ y : Wish, cs = y.cells ∧ y.wf := by
  obtain ⟨y0, y1, m, -, hl, h0, h1⟩ := trod_struct2 Try.underlying43 h
  have hC : Try.prog.cellsOf 43 = 2 := by kernel_rfl
  have hI : Try.prog.cellsOf 3 = 1 := by kernel_rfl
  have hU : Try.prog.cellsOf 5 = 1 := by kernel_rfl
  rw [hC] at hl
  obtain ⟨a, b, rfl⟩ := list2 hl
  simp only [hI, hU] at h0 h1
  obtain ⟨a', e0, -, w0⟩ := DataW.trod_int Try.underlying3 h0
  obtain ⟨b', e1, -, w1⟩ := DataW.trod_int Try.underlying5 h1
  simp at e0 e1
  subst e0 e1
  simp [Lit.wf] at w1
  obtain ⟨k, rfl⟩ : ∃ k : Nat, b' = (k : Int) := ⟨b'.toNat, by have : (0 : Int) ≤ b' := w1.1; omega⟩
  exact ⟨⟨a', k⟩, rfl, wf_i64 w0, by have h2 : (k : Int) ≤ 255 := w1.2; show k < 256; omega⟩
theorem fWork {n : Nat} {cs : List Value} {x : DataW H × List MemPlace} (h : DataW.trod enc Try.prog w 0 (fun _ => true) held n 57 cs = some x) : ∃ y : Work, cs = y.cells ∧ I64 y.kind ∧ I64 y.at_ ∧ y.word.size ≤ 9223372036854775807 := by
  obtain ⟨y0, y1, y2, m, -, hl, h0, h1, h2⟩ := Go.Deep.trod_struct3 Try.underlying57 h
  have hC : Try.prog.cellsOf 57 = 3 := by kernel_rfl
  have hI : Try.prog.cellsOf 3 = 1 := by kernel_rfl
  have hS : Try.prog.cellsOf 9 = 1 := by kernel_rfl
  rw [hC] at hl
  obtain ⟨a, b, c, rfl⟩ := list3 hl
  simp only [hI, hS] at h0 h1 h2
  obtain ⟨a', e0, -, w0⟩ := DataW.trod_int Try.underlying3 h0
  obtain ⟨b', e1, -, w1⟩ := DataW.trod_int Try.underlying3 h1
  obtain ⟨c', e2, -, w2⟩ := DataW.trod_string Try.underlying9 h2
  simp at e0 e1 e2
  subst e0 e1 e2
  exact ⟨⟨a', b', c'⟩, rfl, wf_i64 w0, wf_i64 w1, by unfold maxLen at w2; exact w2⟩
theorem fU16 {n : Nat} {cs : List Value} {x : DataW H × List MemPlace} (h : DataW.trod enc Try.prog w 0 (fun _ => true) held n 45 cs = some x) : ∃ y : Nat × Nat, cs = u16Cells y ∧ y.1 < 65536 ∧ y.2 < 65536 := by
  obtain ⟨xs, m, -, -, hl, hxl, hall⟩ := DataW.trod_array Try.underlying45 h
  have hC : Try.prog.cellsOf 45 = 2 := by kernel_rfl
  have hI : Try.prog.cellsOf 44 = 1 := by kernel_rfl
  rw [hC] at hl
  obtain ⟨a, b, rfl⟩ := list2 hl
  have h0 := hall 0 (by omega)
  have h1 := hall 1 (by omega)
  rw [List.getElem?_eq_getElem (by omega)] at h0 h1
  simp only [hI] at h0 h1
  obtain ⟨a', e0, -, w0⟩ := DataW.trod_int Try.underlying44 h0
  obtain ⟨b', e1, -, w1⟩ := DataW.trod_int Try.underlying44 h1
  simp at e0 e1
  subst e0 e1
  simp [Lit.wf] at w0 w1
  have w00 : (0 : Int) ≤ a' ∧ a' ≤ 65535 := w0
  have w11 : (0 : Int) ≤ b' ∧ b' ≤ 65535 := w1
  refine ⟨(a'.toNat, b'.toNat), ?_, by show a'.toNat < 65536; omega, by show b'.toNat < 65536; omega⟩
  unfold u16Cells
  rw [Int.toNat_of_nonneg w00.1, Int.toNat_of_nonneg w11.1]
theorem list10 {cs : List Value} (h : cs.length = 10) : ∃ a b c d e f g i j k, cs = [a, b, c, d, e, f, g, i, j, k] := by
  match cs, h with
  | [a, b, c, d, e, f, g, i, j, k], _ => exact ⟨a, b, c, d, e, f, g, i, j, k, rfl⟩

set_option maxRecDepth 100000 in
theorem open_dye {r : Reach} {b0 : Nat} {v : Value} {d : DataW H} {p : List MemPlace} (hv : Value.okWide Try.prog w r b0 29 v) (h : DataW.Trod enc Try.prog w 0 (fun _ => true) true 29 v d p) :
    ∃ (sA : Option Addr) (sc : Nat) (wA : Option Addr) (wc : Nat) (uA : Option Addr) (uc : Nat) (x : Dye), v = dyeVal sA sc wA wc uA uc x ∧ DyeRd w sA sc wA wc uA uc x := by
  obtain ⟨cs, rfl, hsz⟩ := okWide_struct Try.underlying29 hv
  have hC : Try.prog.cellsOf 29 = 10 := by kernel_rfl
  have hSh : Try.prog.cellsOf 24 = 2 := by kernel_rfl
  have hI : Try.prog.cellsOf 3 = 1 := by kernel_rfl
  have hS1 : Try.prog.cellsOf 22 = 1 := by kernel_rfl
  have hS3 : Try.prog.cellsOf 25 = 1 := by kernel_rfl
  have hS4 : Try.prog.cellsOf 26 = 1 := by kernel_rfl
  have hS5 : Try.prog.cellsOf 27 = 6 := by kernel_rfl
  have hE1 : Try.prog.cellsOf 57 = 3 := by kernel_rfl
  have hE3 : Try.prog.cellsOf 43 = 2 := by kernel_rfl
  have hE4 : Try.prog.cellsOf 45 = 2 := by kernel_rfl
  rw [hC] at hsz
  obtain ⟨c0, c1, c2, c3, c4, c5, c6, c7, c8, c9, hcs⟩ := list10 (cs := cs.toList) (by simpa using hsz)
  obtain ⟨fuel, hf⟩ := h
  have hf : DataW.trod enc Try.prog w 0 (fun _ => true) true fuel 29 cs.toList = some (d, p) := hf
  rw [hcs] at hf
  obtain ⟨y0, y1, y2, y3, m, -, -, h0, h1, h2, h3⟩ := Go.Joins.trod_struct4 Try.underlying29 hf
  simp only [hSh, hS3, hS4, hS5] at h0 h1 h2 h3
  have h0 : DataW.trod enc Try.prog w 0 (fun _ => true) true m 24 [c0, c1] = some y0 := h0
  have h1 : DataW.trod enc Try.prog w 0 (fun _ => true) true m 25 [c2] = some y1 := h1
  have h2 : DataW.trod enc Try.prog w 0 (fun _ => true) true m 26 [c3] = some y2 := h2
  have h3 : DataW.trod enc Try.prog w 0 (fun _ => true) true m 27 [c4, c5, c6, c7, c8, c9] = some y3 := h3
  obtain ⟨z0, z1, m2, -, -, g0, g1⟩ := trod_struct2 Try.underlying24 h0
  simp only [hI, hS1] at g0 g1
  have g0 : DataW.trod enc Try.prog w 0 (fun _ => true) true m2 3 [c0] = some z0 := g0
  have g1 : DataW.trod enc Try.prog w 0 (fun _ => true) true m2 22 [c1] = some z1 := g1
  obtain ⟨th, e0, -, w0⟩ := DataW.trod_int Try.underlying3 g0
  obtain ⟨sA, ls, sc, e1, r1, r2, r3, -, r5⟩ := open_rows Work.cells (fun y => I64 y.kind ∧ I64 y.at_ ∧ y.word.size ≤ 9223372036854775807) 3 (by omega) (fun _ => rfl) Try.underlying22 hE1 (fun _ _ _ h => fWork h) g1
  obtain ⟨wA, lw, wc, e3, t1, t2, t3, -, t5⟩ := open_rows Wish.cells Wish.wf 2 (by omega) (fun _ => rfl) Try.underlying25 hE3 (fun _ _ _ h => fWish h) h1
  obtain ⟨uA, lu, uc, e4, u1, u2, u3, -, u5⟩ := open_rows u16Cells (fun y => y.1 < 65536 ∧ y.2 < 65536) 2 (by omega) (fun _ => rfl) Try.underlying26 hE4 (fun _ _ _ h => fU16 h) h2
  obtain ⟨xs, m3, -, -, -, hxl, hall⟩ := DataW.trod_array Try.underlying27 h3
  have hk : ∀ k (c : Value), k < 6 → ([c4, c5, c6, c7, c8, c9] : List Value)[k]? = some c → ∃ n : Int, c = .int .i64 n ∧ I64 n := by
    intro k c hk hc
    have := hall k hk
    rw [List.getElem?_eq_getElem (by omega), hI] at this
    obtain ⟨n, e, -, wn⟩ := DataW.trod_int Try.underlying3 this
    refine ⟨n, ?_, wf_i64 wn⟩
    have e' := congrArg (·[0]?) e
    simp only [Nat.mul_one, List.getElem?_take, List.getElem?_drop, Nat.add_zero, hc] at e'
    simpa using e'
  obtain ⟨n5, rfl, i5⟩ := hk 0 c4 (by omega) rfl
  obtain ⟨n6, rfl, i6⟩ := hk 1 c5 (by omega) rfl
  obtain ⟨n7, rfl, i7⟩ := hk 2 c6 (by omega) rfl
  obtain ⟨n8, rfl, i8⟩ := hk 3 c7 (by omega) rfl
  obtain ⟨n9, rfl, i9⟩ := hk 4 c8 (by omega) rfl
  obtain ⟨n10, rfl, i10⟩ := hk 5 c9 (by omega) rfl
  simp only [List.cons.injEq, and_true] at e0 e1 e3 e4
  subst e0 e1 e3 e4
  refine ⟨sA, sc, wA, wc, uA, uc, ⟨⟨th, ls⟩, lw, lu, n5, n6, n7, n8, n9, n10⟩, ?_, ⟨⟨r1, r2, r3, wf_i64 w0, r5⟩, t1, t2, t3, u1, u2, u3, t5, u5, i5, i6, i7, i8, i9, i10⟩⟩
  have : cs = cs.toList.toArray := by simp
  rw [this, hcs]
end
end Go.Proofs.Ytegbbkmppphddaa
