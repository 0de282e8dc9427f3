/- What the six rows share: the tables of math/bits as laid, and the memory that a walk asks for. -/
import Derived.Test.YtegbbkmppphddaaDoorRows
import Derived.ProofKit
import Derived.LaidMore
import Derived.OpenShut
import Derived.Stop.Joined
import Derived.Lib.LaidTab
import Derived.Lib.TrailingZeros
import Derived.Test.YtegbbkmppphddaaDoorTz64
set_option linter.unusedVariables false
set_option linter.unusedSimpArgs false
namespace Go.Proofs.YtegbbkmppphddaaDoor
open Go.ChangeShapes Go.WideShapes Go.RowKit

theorem own : ownKnob Tryd.prog.godebug = none := by kernel_rfl
theorem laidOut : laidOutB Tryd.prog = true := by kernel_rfl
def laidL : List (String × DataW Unit) := [("math/bits.deBruijn32tab", Rows.laid_math_bits_deBruijn32tab), ("math/bits.deBruijn64tab", Rows.laid_math_bits_deBruijn64tab)]
theorem door_met (os : Os) (args : Array Value) : laidMetH Tryd.prog laidL ((World.doorLaid Tryd.prog 400 os).forCall (fun _ _ => 0) ⟨#[], args, []⟩).memory :=
  laidMetH_of_parts3 (fuel := 8) (laidMet_of_run' 8 (by kernel_rfl) (by kernel_rfl)) (by kernel_rfl) (by kernel_rfl)
theorem g64 : Tryd.prog.globalNamed "math/bits.deBruijn64tab" = some 1 := by kernel_rfl
theorem t64 : (Tryd.prog.globals[1]?).map (·.type) = some 107 := by kernel_rfl
theorem tabW_of_laid {W : World} (h : laidMetH Tryd.prog laidL W) : TabW W := by
  rw [MakeChecks.laidMetH_plain _ _ _ (by kernel_rfl)] at h
  obtain ⟨ps, ⟨g0, t0, cs0, f0, p0, q0, hg0, ht0, hv0, hd0, ⟨g1, t1, cs1, f1, p1, q1, hg1, ht1, hv1, hd1, hr1, he1⟩, _⟩, _, _⟩ := h
  obtain rfl := Option.some.inj (g64.symm.trans hg1)
  obtain rfl := Option.some.inj (t64.symm.trans ht1)
  have hd1 : DataW.trod (fun _ => ()) Tryd.prog W 0 (fun _ => true) false f1 107 cs1.toList = some (Lib.tabData .u8 (Lib.deBruijn64tab.map fun (n : Nat) => (n : Int)), p1) := hd1
  have hcs := Lib.cells_of_tab Tryd.underlying107 Tryd.underlying5 (by kernel_rfl) (by kernel_rfl) hd1
  intro j hj
  have := World.var?_cell hg1 hv1 j
  rw [this]
  have hl : Lib.deBruijn64tab.length = 64 := by decide
  rw [← Array.getElem?_toList, hcs]
  simp [hl, hj]
end Go.Proofs.YtegbbkmppphddaaDoor
