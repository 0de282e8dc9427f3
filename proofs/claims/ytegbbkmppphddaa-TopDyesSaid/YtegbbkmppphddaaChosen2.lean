/- The iterator over sets of wishes, whole; a range over it. -/
import Derived.Test.YtegbbkmppphddaaChosen
import Derived.Laws.EntriesVeiled
set_option linter.unusedVariables false
set_option linter.unusedSimpArgs false
namespace Go.Proofs.Ytegbbkmppphddaa
open Go.RowKit
attribute [local go_sem] Oper.semAt_some

def ChPost (J : World → Prop) (Jx : List Nat → World → Prop) (r : Option (List Nat)) (e : Ending) (W' : World) : Prop := (∃ v, e = .returned v) ∧ ((r = none ∧ J W') ∨ ∃ x, r = some x ∧ Jx x W')

end Go.Proofs.Ytegbbkmppphddaa
