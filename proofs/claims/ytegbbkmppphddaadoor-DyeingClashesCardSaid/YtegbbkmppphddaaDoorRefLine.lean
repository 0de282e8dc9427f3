/- What the reference's Make makes of the example, in plain Lean. -/
import Derived.Test.YtegbbkmppphddaaDoorRef03
set_option linter.unusedVariables false
set_option linter.unusedSimpArgs false
namespace Go.Proofs.YtegbbkmppphddaaDoor
open Go.RowKit

/-! ### What Make makes -/
structure Mk where
  at_ : List Int
  crosses : List Cross
  pins : List Pin
/-- One crossing of a work at the first place. -/
def mkCross (s : Mk) (n : Int) : Mk :=
  let q := (max n (-n) - 1).toNat
  { at_ := swapL s.at_ q, crosses := s.crosses ++ [if n < 0 then ⟨0, q, s.at_.getD (q + 1) 0, s.at_.getD q 0⟩ else ⟨0, q, s.at_.getD q 0, s.at_.getD (q + 1) 0⟩], pins := s.pins }
def mkPin (s : Mk) : Mk := { s with pins := s.pins ++ [⟨0, 1, s.at_.getD 1 0, s.at_.getD 2 0⟩] }
def mkLetter (s : Mk) (c : UInt8) : Mk := (crossB c).foldl mkCross (if c = 80 then mkPin s else s)
def exWord : List UInt8 := [67, 84, 80, 67]
def exStart : Mk := ⟨[0, 1, 2, 3], [], []⟩
def exMk (k : Nat) : Mk := (exWord.take k).foldl mkLetter exStart
def exMk2 (k m : Nat) : Mk := ((crossB (exWord.getD k 0)).take m).foldl mkCross (if exWord.getD k 0 = 80 then mkPin (exMk k) else exMk k)
theorem exMk_succ {k : Nat} (h : k < 4) : exMk (k + 1) = exMk2 k (crossB (exWord.getD k 0)).length := by
  unfold exMk exMk2
  rw [List.take_length]
  have hk : k < exWord.length := h
  rw [List.take_succ_eq_append_getElem hk, List.foldl_append]
  have : exWord.getD k 0 = exWord[k] := by rw [List.getD_eq_getElem?_getD, List.getElem?_eq_getElem hk]; rfl
  rw [this]
  rfl
theorem exMk2_succ {k m : Nat} (h : m < (crossB (exWord.getD k 0)).length) : exMk2 k (m + 1) = mkCross (exMk2 k m) ((crossB (exWord.getD k 0))[m]) := by
  unfold exMk2
  rw [List.take_succ_eq_append_getElem h, List.foldl_append]
  rfl
theorem crossB_rng {c : UInt8} {n : Int} (h : n ∈ crossB c) : n = 1 ∨ n = 2 ∨ n = 3 ∨ n = -1 ∨ n = -2 ∨ n = -3 := by
  unfold crossB at h
  (repeat' split at h) <;> simp at h <;> omega
theorem mkCross_len (s : Mk) (n : Int) : (mkCross s n).at_.length = s.at_.length := by simp [mkCross, swapL]
def exCloth : Cloth := ⟨4, [⟨0, 1, 1, 2⟩, ⟨0, 0, 2, 0⟩, ⟨0, 2, 3, 1⟩, ⟨0, 1, 0, 3⟩], [⟨0, 1, 0, 3⟩]⟩
theorem exMk_end : (exMk 4).crosses = exCloth.crosses ∧ (exMk 4).pins = exCloth.pins := by constructor <;> rfl
theorem exMk_at (k : Nat) : (exMk k).at_.length = 4 := by
  unfold exMk
  generalize exWord.take k = l
  have : ∀ (l : List UInt8) (s : Mk), s.at_.length = 4 → (l.foldl mkLetter s).at_.length = 4 := by
    intro l
    induction l with
    | nil => intro s h; exact h
    | cons c l ih =>
      intro s h
      refine ih _ ?_
      unfold mkLetter
      have h2 : ∀ (ns : List Int) (s : Mk), s.at_.length = 4 → (ns.foldl mkCross s).at_.length = 4 := by
        intro ns
        induction ns with
        | nil => intro s h; exact h
        | cons n ns ih2 => intro s h; exact ih2 _ (by rw [mkCross_len]; exact h)
      refine h2 _ _ ?_
      split
      · exact h
      · exact h
  exact this l exStart rfl
end Go.Proofs.YtegbbkmppphddaaDoor
