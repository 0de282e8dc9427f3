/- A range over sets of wishes, whatever its body. -/
import Derived.Test.YtegbbkmppphddaaChosen2
import Derived.RangeFuncMany
import Derived.Shelf.Abstract
set_option linter.unusedVariables false
set_option linter.unusedSimpArgs false
namespace Go.Proofs.Ytegbbkmppphddaa
open Go.RowKit

/-- How a round's body may be left. -/
def PostC (bad : Bool) (ra rb B : Nat) (I Ix : World → Prop) (W : World) : Exit → Act → World → Prop
  | .normal, _, W' => bad = false ∧ Below W.heap.size W W' ∧ I W'
  | .ret, _, W' => bad = true ∧ W.heap.size ≤ W'.heap.size ∧ (∀ k, k < B → k ≠ ra → k ≠ rb → W'.heap[k]? = W.heap[k]?) ∧ Ix W'
  | _, _, _ => False

/-- What a round must achieve. -/
def RoundC (m : Nat) (ps : Array Tmp) (assign body : Code) (tmps : Array Value) (ra rb l : Nat) (bad : List Nat → Bool) (I : World → Prop) (Ix : List Nat → World → Prop) (W : World) (x : List Nat) : Prop :=
  assign.wpIn (Fence.wide.inRound l) m Try.prog (Exit.then (fun a₁ W₁ => Below W.heap.size W W₁ ∧ ∀ W₂, I W₂ → W₂.heap.size = W₁.heap.size → (∀ k, k ≠ l → W₂.heap[k]? = W₁.heap[k]?) →
      body.wpIn (Fence.wide.inRound l) m Try.prog (PostC (bad x) ra rb W.heap.size I (Ix x) W₂) a₁ W₂) (fun _ _ _ => False))
    { tmps := (ps.zip #[.int .u64 (setOf x : Nat)]).foldl (fun t (p, v) => t.setIfInBounds p v) tmps, defers := [] } W

end Go.Proofs.Ytegbbkmppphddaa
