/- The iterator over sets of wishes, walked inside a fence, whatever its round. -/
import Derived.Test.YtegbbkmppphddaaCombos
import Derived.Test.YtegbbkmppphddaaClothA
import Derived.Test.YtegbbkmppphddaaMadeW
set_option linter.unusedVariables false
set_option linter.unusedSimpArgs false
namespace Go.Proofs.Ytegbbkmppphddaa
open Go.RowKit
attribute [local go_sem] Oper.semAt_some

/-- The first of the lists that begin so for which a round stops. -/
def clashG (bad : List Nat → Bool) (n m : Nat) (l : List Nat) (f : Nat) : Option (List Nat) := (combos n m f).findSome? fun e => if bad (l ++ e) then some (l ++ e) else none
theorem clashG_zero (bad : List Nat → Bool) (n : Nat) (l : List Nat) (f : Nat) : clashG bad n 0 l f = if bad l then some l else none := by simp [clashG, combos]
theorem clashG_succ (bad : List Nat → Bool) (n m : Nat) (l : List Nat) (f : Nat) : clashG bad n (m + 1) l f = (List.range' f (n - f)).findSome? fun i => clashG bad n m (l ++ [i]) (i + 1) := by
  unfold clashG
  rw [combos, findSome_flat]
  congr 1
  funext i
  rw [List.findSome?_map]
  congr 1
  funext e
  simp
theorem find_range_cons {α : Type} {g : Nat → Option α} {n k : Nat} (hk : k < n) : (List.range' k (n - k)).findSome? g = match g k with | some x => some x | none => (List.range' (k + 1) (n - (k + 1))).findSome? g := by
  rw [show n - k = (n - (k + 1)) + 1 by omega, List.range'_succ, List.findSome?_cons]
  cases g k <;> rfl

/-- A list that a set stands for. -/
structure Asc (n : Nat) (e : List Nat) : Prop where
  asc : e.Pairwise (· < ·)
  lt : ∀ i ∈ e, i < n
theorem Asc.snoc {n : Nat} {e : List Nat} (h : Asc n e) {i : Nat} (hi : i < n) (hl : ∀ j ∈ e, j < i) : Asc n (e ++ [i]) :=
  ⟨List.pairwise_append.2 ⟨h.asc, by simp, fun a ha b hb => by simp at hb; subst hb; exact hl a ha⟩, fun j hj => by
    rcases List.mem_append.1 hj with hj | hj
    · exact h.lt j hj
    · simp at hj; omega⟩
theorem Asc.lt1024 {n : Nat} {e : List Nat} (h : Asc n e) (hn : n ≤ 10) : setOf e < 1024 := setOf_lt (n := 10) fun i hi => by have := h.lt i hi; omega

def AddPost (J : World → Prop) (Jx : List Nat → World → Prop) (r : Option (List Nat)) (e : Ending) (W' : World) : Prop :=
  (r = none ∧ e = .returned (.bool true) ∧ J W') ∨ ∃ x, r = some x ∧ e = .returned (.bool false) ∧ Jx x W'

theorem addPost_none {J : World → Prop} {Jx : List Nat → World → Prop} {e : Ending} {W : World} (h : AddPost J Jx none e W) : e = .returned (.bool true) ∧ J W := by
  rcases h with ⟨-, h1, h2⟩ | ⟨x, h, -⟩
  · exact ⟨h1, h2⟩
  · cases h
theorem addPost_some {J : World → Prop} {Jx : List Nat → World → Prop} {x : List Nat} {e : Ending} {W : World} (h : AddPost J Jx (some x) e W) : e = .returned (.bool false) ∧ Jx x W := by
  rcases h with ⟨h, -⟩ | ⟨y, h, h1, h2⟩
  · cases h
  · cases h; exact ⟨h1, h2⟩
theorem or_shl10 (v o : Nat) (hv : v < 1024) (ho : o < 10) : bits .or .u64 (v : Int) (IntKind.u64.wrap (2 ^ o)) = ((v ||| 2 ^ o : Nat) : Int) := or_shl v o (by omega) (by omega)

end Go.Proofs.Ytegbbkmppphddaa
