/- The problem that 'made' makes, in plain Lean. -/
import Derived.Test.YtegbbkmppphddaaProb
set_option linter.unusedVariables false
set_option linter.unusedSimpArgs false
namespace Go.Proofs.Ytegbbkmppphddaa

def fillL (k : Nat) : List Nat := List.replicate k 63 ++ List.replicate (16 - k) 0
theorem fillL_length {k : Nat} (hk : k ≤ 16) : (fillL k).length = 16 := by simp [fillL]; omega
theorem fillL_get {k j : Nat} (hk : k ≤ 16) : (fillL k).getD j 0 = if j < k then 63 else 0 := by
  unfold fillL
  by_cases h : j < k
  · rw [if_pos h]; simp [List.getElem?_append_left, h]
  · rw [if_neg h]
    by_cases h2 : j < 16
    · rw [List.getD_eq_getElem?_getD, List.getElem?_append_right (by simp; omega)]
      simp
      rw [List.getElem?_replicate]
      split <;> rfl
    · rw [List.getD_eq_getElem?_getD, List.getElem?_eq_none (by simp; omega)]; rfl
theorem fillL_succ {k : Nat} (hk : k < 16) : (fillL k).set k 63 = fillL (k + 1) := by
  refine List.ext_getElem (by simp [fillL]; omega) fun j h1 h2 => ?_
  have g1 := fillL_get (k := k) (j := j) (by omega)
  have g2 := fillL_get (k := k + 1) (j := j) (by omega)
  have hj : j < (fillL k).length := by simpa using h1
  rw [List.getD_eq_getElem?_getD, List.getElem?_eq_getElem hj] at g1
  rw [List.getD_eq_getElem?_getD, List.getElem?_eq_getElem h2] at g2
  simp only [Option.getD_some] at g1 g2
  by_cases e : j = k
  · subst e; simp [g2]
  · rw [List.getElem_set_ne (Ne.symm e), g1, g2]
    by_cases h : j < k
    · rw [if_pos h, if_pos (by omega)]
    · rw [if_neg h, if_neg (by omega)]

/-- What the threads may have behind the first k wishes. -/
def mayW (t : Task) (ch : Nat → Bool) (m0 : List Nat) : Nat → List Nat
  | 0 => m0
  | k + 1 => if ch k then (mayW t ch m0 k).set (ov t (t.wishes.getD k default).cross) ((mayW t ch m0 k).getD (ov t (t.wishes.getD k default).cross) 0 &&& (t.wishes.getD k default).allowed) else mayW t ch m0 k
def unlW (t : Task) : Nat → List Nat
  | 0 => List.replicate 16 0
  | k + 1 =>
    let a := ov t (t.unlike.getD k default).1
    let b := ov t (t.unlike.getD k default).2
    let u := (unlW t k).set a ((unlW t k).getD a 0 ||| 2 ^ b)
    u.set b (u.getD b 0 ||| 2 ^ a)
def nevW (t : Task) : Nat → Bool
  | 0 => false
  | k + 1 => nevW t k || decide (ov t (t.unlike.getD k default).1 = ov t (t.unlike.getD k default).2)
/-- The wishes that are chosen. -/
def picked (t : Task) (ch : Nat → Bool) : List Wish := ((List.range t.wishes.length).filter ch).map fun i => t.wishes.getD i default
def pickT (t : Task) (ch : Nat → Bool) : Task := { t with wishes := picked t ch }
def madeP (t : Task) (ch : Nat → Bool) : Prob :=
  { may := mayW t ch (fillL t.cloth.threads.toNat) t.wishes.length, unl := unlW t t.unlike.length, left := t.supply, many := t.cloth.threads.toNat, never := nevW t t.unlike.length }
theorem mem_picked {t : Task} {ch : Nat → Bool} {w : Wish} : w ∈ picked t ch ↔ ∃ i, i < t.wishes.length ∧ ch i = true ∧ w = t.wishes.getD i default := by
  unfold picked
  simp only [List.mem_map, List.mem_filter, List.mem_range]
  constructor
  · rintro ⟨i, ⟨h1, h2⟩, rfl⟩; exact ⟨i, h1, h2, rfl⟩
  · rintro ⟨i, h1, h2, rfl⟩; exact ⟨i, ⟨h1, h2⟩, rfl⟩

theorem setD {l : List Nat} {a j v : Nat} (ha : a < l.length) : (l.set a v).getD j 0 = if j = a then v else l.getD j 0 := by
  by_cases h : j = a
  · subst h; simp [ha]
  · simp [h, List.getElem?_set_ne (Ne.symm h)]
theorem mayW_length (t : Task) (ch : Nat → Bool) (m0 : List Nat) : ∀ k, (mayW t ch m0 k).length = m0.length
  | 0 => rfl
  | k + 1 => by
    unfold mayW
    split
    · rw [List.length_set]; exact mayW_length t ch m0 k
    · exact mayW_length t ch m0 k
theorem mayW_bit {t : Task} {ch : Nat → Bool} {m0 : List Nat} (hm : m0.length = 16) (hov : ∀ i, i < t.wishes.length → ov t (t.wishes.getD i default).cross < 16) : ∀ k, k ≤ t.wishes.length → ∀ j c,
    ((mayW t ch m0 k).getD j 0).testBit c = true ↔ ((m0.getD j 0).testBit c = true ∧ ∀ i, i < k → ch i = true → ov t (t.wishes.getD i default).cross = j → (t.wishes.getD i default).allowed.testBit c = true)
  | 0, _, j, c => by simp [mayW]
  | k + 1, hk, j, c => by
    have ih := mayW_bit (ch := ch) hm hov k (by omega) j c
    have hsplit : (∀ i, i < k + 1 → ch i = true → ov t (t.wishes.getD i default).cross = j → (t.wishes.getD i default).allowed.testBit c = true) ↔
        (∀ i, i < k → ch i = true → ov t (t.wishes.getD i default).cross = j → (t.wishes.getD i default).allowed.testBit c = true) ∧ (ch k = true → ov t (t.wishes.getD k default).cross = j → (t.wishes.getD k default).allowed.testBit c = true) := by
      constructor
      · intro h; exact ⟨fun i hi => h i (by omega), h k (by omega)⟩
      · rintro ⟨h1, h2⟩ i hi
        by_cases e : i = k
        · subst e; exact h2
        · exact h1 i (by omega)
    rw [hsplit]
    unfold mayW
    by_cases hc : ch k = true
    · rw [if_pos hc, setD (by rw [mayW_length, hm]; exact hov k (by omega))]
      by_cases hj : j = ov t (t.wishes.getD k default).cross
      · rw [if_pos hj, ← hj, Nat.testBit_and, Bool.and_eq_true, ih]
        constructor
        · rintro ⟨⟨a, b⟩, d⟩; exact ⟨a, b, fun _ _ => d⟩
        · rintro ⟨a, b, d⟩; exact ⟨⟨a, b⟩, d hc rfl⟩
      · rw [if_neg hj, ih]
        constructor
        · rintro ⟨a, b⟩; exact ⟨a, b, fun _ e => absurd e.symm hj⟩
        · rintro ⟨a, b, _⟩; exact ⟨a, b⟩
    · rw [if_neg hc, ih]
      constructor
      · rintro ⟨a, b⟩; exact ⟨a, b, fun h => absurd h hc⟩
      · rintro ⟨a, b, _⟩; exact ⟨a, b⟩
theorem unlW_length (t : Task) : ∀ k, (unlW t k).length = 16
  | 0 => by simp [unlW]
  | k + 1 => by simp [unlW, unlW_length t k]
theorem unlW_succ (t : Task) (k : Nat) : unlW t (k + 1) = ((unlW t k).set (ov t (t.unlike.getD k default).1) ((unlW t k).getD (ov t (t.unlike.getD k default).1) 0 ||| 2 ^ ov t (t.unlike.getD k default).2)).set (ov t (t.unlike.getD k default).2)
    (((unlW t k).set (ov t (t.unlike.getD k default).1) ((unlW t k).getD (ov t (t.unlike.getD k default).1) 0 ||| 2 ^ ov t (t.unlike.getD k default).2)).getD (ov t (t.unlike.getD k default).2) 0 ||| 2 ^ ov t (t.unlike.getD k default).1) := rfl
theorem unlW_bit {t : Task} (hov : ∀ i, i < t.unlike.length → ov t (t.unlike.getD i default).1 < 16 ∧ ov t (t.unlike.getD i default).2 < 16) : ∀ k, k ≤ t.unlike.length → ∀ j c,
    ((unlW t k).getD j 0).testBit c = true ↔ ∃ i, i < k ∧ ((ov t (t.unlike.getD i default).1 = j ∧ ov t (t.unlike.getD i default).2 = c) ∨ (ov t (t.unlike.getD i default).1 = c ∧ ov t (t.unlike.getD i default).2 = j))
  | 0, _, j, c => by
    have : (List.replicate 16 0 : List Nat).getD j 0 = 0 := by
      rw [List.getD_eq_getElem?_getD, List.getElem?_replicate]; split <;> rfl
    rw [show unlW t 0 = List.replicate 16 0 from rfl, this]
    simp
  | k + 1, hk, j, c => by
    have ih := unlW_bit hov k (by omega) j c
    obtain ⟨ha, hb⟩ := hov k (by omega)
    have hsplit : (∃ i, i < k + 1 ∧ ((ov t (t.unlike.getD i default).1 = j ∧ ov t (t.unlike.getD i default).2 = c) ∨ (ov t (t.unlike.getD i default).1 = c ∧ ov t (t.unlike.getD i default).2 = j))) ↔
        (∃ i, i < k ∧ ((ov t (t.unlike.getD i default).1 = j ∧ ov t (t.unlike.getD i default).2 = c) ∨ (ov t (t.unlike.getD i default).1 = c ∧ ov t (t.unlike.getD i default).2 = j))) ∨
        ((ov t (t.unlike.getD k default).1 = j ∧ ov t (t.unlike.getD k default).2 = c) ∨ (ov t (t.unlike.getD k default).1 = c ∧ ov t (t.unlike.getD k default).2 = j)) := by
      constructor
      · rintro ⟨i, hi, h⟩
        by_cases e : i = k
        · subst e; exact .inr h
        · exact .inl ⟨i, by omega, h⟩
      · rintro (⟨i, hi, h⟩ | h)
        · exact ⟨i, by omega, h⟩
        · exact ⟨k, by omega, h⟩
    rw [hsplit, ← ih, unlW_succ]
    clear hsplit ih
    generalize ov t (t.unlike.getD k default).1 = a at *
    generalize ov t (t.unlike.getD k default).2 = b at *
    have hl := unlW_length t k
    generalize unlW t k = U at *
    clear hov hk
    rw [setD (by simp [hl]; omega), setD (by rw [hl]; exact ha), setD (by rw [hl]; exact ha)]
    by_cases hjb : j = b
    · rw [if_pos hjb, ← hjb]
      by_cases hja : j = a
      · rw [if_pos hja, Nat.testBit_or, Nat.testBit_or, Nat.testBit_two_pow, Nat.testBit_two_pow, ← hja]
        simp only [Bool.or_eq_true, decide_eq_true_eq]
        generalize (U.getD j 0).testBit c = x
        grind
      · rw [if_neg hja, Nat.testBit_or, Nat.testBit_two_pow]
        simp only [Bool.or_eq_true, decide_eq_true_eq]
        generalize (U.getD j 0).testBit c = x
        grind
    · rw [if_neg hjb]
      by_cases hja : j = a
      · rw [if_pos hja, Nat.testBit_or, Nat.testBit_two_pow, ← hja]
        simp only [Bool.or_eq_true, decide_eq_true_eq]
        generalize (U.getD j 0).testBit c = x
        grind
      · rw [if_neg hja]
        generalize (U.getD j 0).testBit c = x
        grind
theorem nevW_iff (t : Task) : ∀ k, nevW t k = true ↔ ∃ i, i < k ∧ ov t (t.unlike.getD i default).1 = ov t (t.unlike.getD i default).2
  | 0 => by simp [nevW]
  | k + 1 => by
    unfold nevW
    rw [Bool.or_eq_true, nevW_iff t k, decide_eq_true_eq]
    constructor
    · rintro (⟨i, hi, h⟩ | h)
      · exact ⟨i, by omega, h⟩
      · exact ⟨k, by omega, h⟩
    · rintro ⟨i, hi, h⟩
      by_cases e : i = k
      · subst e; exact .inr h
      · exact .inl ⟨i, by omega, h⟩
end Go.Proofs.Ytegbbkmppphddaa
