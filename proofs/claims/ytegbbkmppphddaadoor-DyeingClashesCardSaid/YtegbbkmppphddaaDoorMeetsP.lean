/- What the program's Meets asks of an arrangement, in plain Lean. -/
import Derived.Test.YtegbbkmppphddaaDoorLeast
set_option linter.unusedVariables false
set_option linter.unusedSimpArgs false
namespace Go.Proofs.YtegbbkmppphddaaDoor

def colsB (t : Task) (l : List Int) : Bool := decide ((l.length : Int) = t.cloth.threads) && l.all fun x => decide (0 ≤ x) && decide (x < 6)
/-- What Meets returns: whether an arrangement meets a task, and an error. -/
def meetsR (t : Task) (l : List Int) : Bool × Int := if taskB t ≠ 0 then (false, taskB t) else if colsB t l then (possibleB t l, 0) else (false, 2)
theorem colsB_yes {t : Task} (hk : t.ok) {l : List Int} (h : colsB t l = true) : l.length = t.cloth.threads.toNat ∧ Cols l := by
  unfold colsB at h
  simp only [Bool.and_eq_true, decide_eq_true_eq, List.all_eq_true] at h
  have := hk.threads
  exact ⟨by omega, fun x hx => h.2 x hx⟩
theorem colsB_arr {t : Task} (hk : t.ok) {l : List Int} (h1 : l.length = t.cloth.threads.toNat) (h2 : Cols l) : colsB t l = true := by
  unfold colsB
  have := hk.threads
  simp only [Bool.and_eq_true, decide_eq_true_eq, List.all_eq_true]
  exact ⟨by omega, fun x hx => h2 x hx⟩

/-- How many threads of each colour are left behind the first n. -/
def leftN (t : Task) (l : List Int) (n : Nat) : List Int := (List.range 6).map fun c => t.supply.getD c 0 - countC (l.take n) (c : Int)
theorem leftN_get (t : Task) (l : List Int) (n : Nat) {c : Nat} (hc : c < 6) : (leftN t l n).getD c 0 = t.supply.getD c 0 - countC (l.take n) (c : Int) := by
  simp [leftN, hc]
theorem leftN_zero (t : Task) (l : List Int) : leftN t l 0 = t.supply := by
  simp [leftN, countC, Task.supply, List.range_succ]
theorem leftN_succ (t : Task) (l : List Int) {n c : Nat} (hn : n < l.length) (hc : c < 6) (he : l[n] = (c : Int)) : (leftN t l n).set c ((leftN t l n).getD c 0 - 1) = leftN t l (n + 1) := by
  refine List.ext_getElem (by simp [leftN]) fun k h1 h2 => ?_
  have hk : k < 6 := by simpa [leftN] using h2
  have e1 : (leftN t l (n + 1))[k] = t.supply.getD k 0 - countC (l.take (n + 1)) (k : Int) := by simp [leftN]
  refine Eq.trans ?_ e1.symm
  have e2 := leftN_get t l n hc
  rw [countC_take_succ l _ n hn, he]
  by_cases hkc : k = c
  · subst hkc
    rw [List.getElem_set_self, e2, if_pos rfl]; omega
  · rw [List.getElem_set_ne (Ne.symm hkc), if_neg (by omega)]
    simp [leftN]

/-- What has been asked of the first n threads. -/
structure Asked (p : Prob) (t : Task) (l : List Int) (n : Nat) : Prop where
  may : ∀ j, j < n → (p.may.getD j 0).testBit (l.getD j 0).toNat = true
  left : ∀ c : Nat, c < 6 → (countC (l.take n) (c : Int) : Int) ≤ t.supply.getD c 0
  unl : ∀ j, j < n → ∀ k, k < j → (p.unl.getD j 0).testBit k = true → l.getD k 0 ≠ l.getD j 0
theorem asked_zero {p : Prob} {t : Task} (hk : t.ok) (l : List Int) : Asked p t l 0 :=
  ⟨fun j h => by omega, fun c hc => by have := (hk.supply c hc).1; rw [List.getD_eq_getElem?_getD]; simpa [countC] using this, fun j h => by omega⟩
theorem asked_succ {p : Prob} {t : Task} {l : List Int} {n : Nat} (h : Asked p t l n) (hn : n < l.length) {c : Nat} (hc : c < 6) (he : l[n] = (c : Int)) (h1 : (p.may.getD n 0).testBit c = true)
    (h2 : 0 ≤ (leftN t l (n + 1)).getD c 0) (h3 : ∀ k, k < n → (p.unl.getD n 0).testBit k = true → l.getD k 0 ≠ (c : Int)) : Asked p t l (n + 1) := by
  have hg : l.getD n 0 = (c : Int) := by rw [List.getD_eq_getElem?_getD, List.getElem?_eq_getElem hn]; simpa using he
  refine ⟨fun j hj => ?_, fun d hd => ?_, fun j hj k hk hb => ?_⟩
  · by_cases e : j = n
    · subst e; rw [hg]; simpa using h1
    · exact h.may j (by omega)
  · rw [leftN_get t l _ hc] at h2
    by_cases e : d = c
    · subst e; omega
    · have := h.left d hd
      rw [countC_take_succ l _ n hn, he, if_neg (by omega)]
      omega
  · by_cases e : j = n
    · subst e; rw [hg]; exact h3 k hk hb
    · exact h.unl j (by omega) k hk hb
theorem countC_take_le (l : List Int) (c : Int) (n : Nat) : countC (l.take n) c ≤ countC l c := by
  have := countC_append (l.take n) (l.drop n) c
  rw [List.take_append_drop] at this
  omega
theorem meets_no_may {p : Prob} {t : Task} (hk : t.ok) (hM : Matches p t) {l : List Int} (hl : l.length = t.cloth.threads.toNat) (hc : Cols l) {n c : Nat} (hn : n < l.length) (hc6 : c < 6) (he : l[n] = (c : Int))
    (h : (p.may.getD n 0).testBit c = false) : possibleB t l = false := by
  rw [Bool.eq_false_iff]
  intro hp
  have hP := (poss_iff hk hc).1 hp
  have hg : l.getD n 0 = (c : Int) := by rw [List.getD_eq_getElem?_getD, List.getElem?_eq_getElem hn]; simpa using he
  have := (hM.may n (by rw [hM.many]; omega) c hc6).2 fun w hw ho => by
    have := hP.wish w hw (by omega)
    rw [ho, hg] at this
    simpa using this
  rw [h] at this; cases this
theorem meets_no_left {t : Task} (hk : t.ok) {l : List Int} (hc : Cols l) {n c : Nat} (hc6 : c < 6) (h : (leftN t l n).getD c 0 < 0) : possibleB t l = false := by
  rw [Bool.eq_false_iff]
  intro hp
  have hP := (poss_iff hk hc).1 hp
  have h1 := hP.supply c hc6
  have h2 := countC_take_le l (c : Int) n
  rw [leftN_get t l n hc6, List.getD_eq_getElem?_getD] at h
  omega
theorem meets_no_unl {p : Prob} {t : Task} (hk : t.ok) (hM : Matches p t) {l : List Int} (hl : l.length = t.cloth.threads.toNat) (hc : Cols l) {n k : Nat} (hn : n < l.length) (hkn : k < n) (hb : (p.unl.getD n 0).testBit k = true)
    (h : l.getD k 0 = l.getD n 0) : possibleB t l = false := by
  rw [Bool.eq_false_iff]
  intro hp
  have hP := (poss_iff hk hc).1 hp
  obtain ⟨u, hu, ⟨e1, e2⟩ | ⟨e1, e2⟩⟩ := (hM.unl n k (by rw [hM.many]; omega) (by rw [hM.many]; omega)).1 hb
  · have := hP.pair u hu (by omega) (by omega)
    rw [e1, e2] at this
    exact this h.symm
  · have := hP.pair u hu (by omega) (by omega)
    rw [e1, e2] at this
    exact this h
theorem meets_done {p : Prob} {t : Task} (hk : t.ok) (hM : Matches p t) {l : List Int} (hl : l.length = t.cloth.threads.toNat) (hc : Cols l) (h : Asked p t l l.length) : possibleB t l = !p.never := by
  rw [Bool.eq_iff_iff, poss_iff hk hc, Bool.not_eq_true', ← Bool.not_eq_true, hM.never]
  constructor
  · rintro hP ⟨u, hu, he⟩
    have hb := hk.pair u hu
    have := ov_lt hk hb.1 hb.2.1
    exact hP.pair u hu (by omega) (by omega) (by rw [he])
  · intro hno
    refine ⟨fun c hc6 => ?_, fun w hw hlt => ?_, fun u hu h1 h2 he => ?_⟩
    · have := h.left c hc6
      rwa [List.take_length, List.getD_eq_getElem?_getD] at this
    · have hg := cols_getD hc (ov t w.cross)
      exact (hM.may _ (by rw [hM.many]; omega) _ (by omega)).1 (h.may _ hlt) w hw rfl
    · rcases Nat.lt_trichotomy (ov t u.1) (ov t u.2) with q | q | q
      · exact h.unl _ h2 _ q ((hM.unl _ _ (by rw [hM.many]; omega) (by rw [hM.many]; omega)).2 ⟨u, hu, .inr ⟨rfl, rfl⟩⟩) he
      · exact hno ⟨u, hu, q⟩
      · exact h.unl _ h1 _ q ((hM.unl _ _ (by rw [hM.many]; omega) (by rw [hM.many]; omega)).2 ⟨u, hu, .inl ⟨rfl, rfl⟩⟩) he.symm
end Go.Proofs.YtegbbkmppphddaaDoor
