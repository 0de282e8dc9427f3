/- A nil slice of wishes has no room. -/
import Derived.Test.YtegbbkmppphddaaDoorOpen
set_option linter.unusedVariables false
set_option linter.unusedSimpArgs false
namespace Go.Proofs.YtegbbkmppphddaaDoor
open Go.RowKit Go.ChangeShapes Go.WideShapes

section
variable {H : Type} {enc : TypeId × Value → H} {w : World}
set_option maxRecDepth 100000 in
theorem task_nil {cA : Option Addr} {cc : Nat} {pA : Option Addr} {pc : Nat} {wA : Option Addr} {wc : Nat} {uA : Option Addr} {uc : Nat} {t : Task} {d : DataW H} {p : List MemPlace}
    (h : DataW.Trod enc Tryd.prog w 0 (fun _ => true) true 30 (taskVal cA cc pA pc wA wc uA uc t) d p) : wA = none → wc = 0 := by
  rintro rfl
  have hCl : Tryd.prog.cellsOf 25 = 3 := by kernel_rfl
  have hS3 : Tryd.prog.cellsOf 26 = 1 := by kernel_rfl
  have hS4 : Tryd.prog.cellsOf 27 = 1 := by kernel_rfl
  have hS5 : Tryd.prog.cellsOf 28 = 6 := by kernel_rfl
  obtain ⟨fuel, hf⟩ := h
  obtain ⟨y0, y1, y2, y3, m, -, -, h0, h1, h2, h3⟩ := Go.Joins.trod_struct4 Tryd.underlying30 hf
  simp only [hCl, hS3, hS4, hS5] at h0 h1 h2 h3
  have h1 : DataW.trod enc Tryd.prog w 0 (fun _ => true) true m 26 [.slice none t.wishes.length wc] = some y1 := h1
  rcases Go.Deep.open_slice Tryd.underlying26 h1 with ⟨e, -⟩ | ⟨a, len, cap, m', n, D, Pl, e, -⟩
  · simp at e; exact e.2
  · simp at e
set_option maxRecDepth 100000 in
theorem open_u16 {r : Reach} {b0 : Nat} {v : Value} {d : DataW H} {p : List MemPlace} (hv : Value.okWide Tryd.prog w r b0 47 v) (h : DataW.Trod enc Tryd.prog w 0 (fun _ => true) true 47 v d p) :
    ∃ a : Nat, v = .int .u16 (a : Nat) ∧ a < 65536 := by
  obtain ⟨x, rfl, rfl, rfl, wx⟩ := open_int Tryd.underlying47 hv h
  simp [Lit.wf] at wx
  have w0 : (0 : Int) ≤ x ∧ x ≤ 65535 := wx
  exact ⟨x.toNat, by rw [Int.toNat_of_nonneg w0.1], by omega⟩
end
end Go.Proofs.YtegbbkmppphddaaDoor
