/- bits.TrailingZeros of a small set, by the library's table. -/
import Derived.Test.YtegbbkmppphddaaChosenR
import Derived.Lib.TrailingZeros
import Derived.Lib.Hide
set_option linter.unusedVariables false
set_option linter.unusedSimpArgs false
namespace Go.Proofs.Ytegbbkmppphddaa
open Go.RowKit

/-- The library's table in its variable. -/
def TabW (w : World) : Prop := ∀ j, j < 64 → w.cell? ⟨1, j, none⟩ = some (.int .u8 (Lib.deBruijn64tab.getD j 0 : Nat))
theorem TabW.lt {w : World} (h : TabW w) : 1 < w.heap.size := cell_lt (h 0 (by omega))
theorem TabW.below {w w' : World} (h : TabW w) (hb : Below w.heap.size w w') : TabW w' := fun j hj => (hb.cell (p := ⟨1, j, none⟩) h.lt).trans (h j hj)
theorem TabW.of_block {w w' : World} (h : TabW w) (e : w'.heap[1]? = w.heap[1]?) : TabW w' := fun j hj => (World.cell?_of_block (a := ⟨1, j, none⟩) e).trans (h j hj)

/-- The least of a set of numbers below ten. -/
def tz10 (v : Nat) : Nat := (bitsOf v).headD 0
def idx64 (k : Nat) : Nat := 2 ^ k * 285870213051353865 % 18446744073709551616 / 288230376151711744
set_option maxRecDepth 100000 in
theorem tz_key : ∀ v : Nat, v < 1024 → v ≠ 0 → IntKind.u64.wrap (bits BinOp.and IntKind.u64 (v : Int) (IntKind.u64.wrap (-(v : Int))) * 285870213051353865) / 288230376151711744 = (idx64 (tz10 v) : Int) ∧ tz10 v < 10 ∧
    bitsOf v = tz10 v :: bitsOf (v &&& (v - 1)) ∧ v &&& (v - 1) < v := by decide +kernel
theorem idx_tab : ∀ k : Nat, k < 10 → idx64 k < 64 ∧ Lib.deBruijn64tab.getD (idx64 k) 0 = k := by decide +kernel
theorem and_pred10 {v : Nat} (h0 : v ≠ 0) (h : v < 1024) : bits .and .u64 (v : Int) ((v : Int) - 1) = ((v &&& (v - 1) : Nat) : Int) := by
  have := u64_and_nat v (v - 1) (by omega) (by omega)
  rwa [show ((v - 1 : Nat) : Int) = (v : Int) - 1 by omega] at this
theorem bitsOf_nil {v : Nat} (h : v < 1024) (h0 : bitsOf v = []) : v = 0 := by
  refine Classical.byContradiction fun hn => ?_
  rw [(tz_key v h hn).2.2.1] at h0
  cases h0

end Go.Proofs.Ytegbbkmppphddaa
