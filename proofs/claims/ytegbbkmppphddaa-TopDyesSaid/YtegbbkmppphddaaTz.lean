/- bits.TrailingZeros8 of a small number. -/
import Derived.Test.YtegbbkmppphddaaEnough
set_option linter.unusedVariables false
set_option linter.unusedSimpArgs false
namespace Go.Proofs.Ytegbbkmppphddaa
open Go.RowKit

theorem ba_get (s : ByteArray) (m : Nat) (h : m < s.size) : (s[m]'h).toNat = (s.data.toList.getD m 0).toNat := by
  have h' : m < s.data.toList.length := by simpa using h
  rw [List.getD_eq_getElem?_getD, List.getElem?_eq_getElem h', Option.getD_some, Array.getElem_toList]
  rfl
def tz (m : Nat) : Nat := if m.testBit 0 then 0 else if m.testBit 1 then 1 else if m.testBit 2 then 2 else if m.testBit 3 then 3 else if m.testBit 4 then 4 else if m.testBit 5 then 5 else 8
set_option maxRecDepth 100000 in
theorem tz_tab : ∀ m, m < 64 → m ≠ 0 → tz m < 6 ∧ m.testBit (tz m) = true ∧ (m &&& (m - 1)) < 64 ∧ ∀ d, d < 6 → (m &&& (m - 1)).testBit d = (m.testBit d && decide (tz m < d)) ∧ (d < tz m → m.testBit d = false) := by decide
set_option maxRecDepth 100000 in
theorem tz8_any {w : World} (m : Nat) (hm : m < 64) :
    Calls Try.prog 40 #[.int .u8 m] w fun e w' => e = .returned (.int .i64 (tz m : Nat)) ∧ w = w' := by
  go_enter Try.func40, Try.ntmps40
  go_wp2
  go_ret
  refine ⟨congrArg (fun x => Ending.returned (Value.int .i64 x)) ?_, rfl⟩
  rename_i hx
  rw [ba_get]
  clear hx
  revert m
  decide +kernel
end Go.Proofs.Ytegbbkmppphddaa
