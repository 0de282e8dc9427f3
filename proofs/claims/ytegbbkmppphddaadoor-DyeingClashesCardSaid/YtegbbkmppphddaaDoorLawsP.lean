/- What the laws of the least arrangement ask, in plain lists. -/
import Derived.Test.YtegbbkmppphddaaDoorLeast
import Derived.Test.YtegbbkmppphddaaDoorCombos
import Derived.Test.YtegbbkmppphddaaDoorMeetsP
set_option linter.unusedVariables false
set_option linter.unusedSimpArgs false
namespace Go.Proofs.YtegbbkmppphddaaDoor
open Go.RowKit

/-- Does a list meet the task, as the law asks? -/
def fitB (t : Task) (c : List Int) : Bool := (meetsR t c).1 && decide ((meetsR t c).2 = 0)
theorem fitB_arr {t : Task} (h0 : taskB t = 0) {c : List Int} : fitB t c = true ↔ Arr t c := by
  have hk := taskB_ok h0
  unfold fitB meetsR
  rw [if_neg (by simpa using h0)]
  by_cases h : colsB t c = true
  · rw [if_pos h]
    obtain ⟨h1, h2⟩ := colsB_yes hk h
    simp only [decide_true, Bool.and_true]
    exact ⟨fun hp => ⟨h1, h2, (poss_iff hk h2).1 hp⟩, fun ha => (poss_iff hk h2).2 ha.poss⟩
  · rw [if_neg h]
    simp only [Bool.false_and, Bool.false_eq_true, false_iff]
    intro ha
    exact h (colsB_arr hk ha.len ha.cols)
theorem meets_arr {t : Task} (h0 : taskB t = 0) {c : List Int} (h : Arr t c) : meetsR t c = (true, 0) := by
  have hk := taskB_ok h0
  unfold meetsR
  rw [if_neg (by simpa using h0), if_pos (colsB_arr hk h.len h.cols), (poss_iff hk h.cols).2 h.poss]
/-- The two ways of the law DyeingLeast. -/
theorem least_ways {t : Task} (h0 : taskB t = 0) (c : List Int) :
    (∃ r, solveR t = (r, 0) ∧ meetsR t r = (true, 0) ∧ (fitB t c = true → r.length = c.length ∧ ∀ k, k < r.length → (∀ j, j < k → r.getD j 0 = c.getD j 0) → r.getD k 0 ≠ c.getD k 0 → r.getD k 0 < c.getD k 0)) ∨
    (solveR t = ([], 4) ∧ fitB t c = false) := by
  have hk := taskB_ok h0
  have hs : solveR t = resOf (solveB t t.cloth.threads.toNat []) := by unfold solveR; rw [if_neg (by simpa using h0)]
  cases hr : solveB t t.cloth.threads.toNat [] with
  | none =>
    right
    refine ⟨by rw [hs, hr]; rfl, ?_⟩
    cases hi : fitB t c with
    | false => rfl
    | true =>
      obtain ⟨l, h1, -⟩ := solve_least hk ((fitB_arr h0).1 hi)
      rw [hr] at h1; cases h1
  | some r =>
    left
    have ha := solve_arr hk hr
    refine ⟨r, by rw [hs, hr]; rfl, meets_arr h0 ha, fun hi => ?_⟩
    have hc := (fitB_arr h0).1 hi
    obtain ⟨l, h1, h2⟩ := solve_least hk hc
    rw [hr] at h1
    obtain rfl := Option.some.inj h1
    have hl : r.length = c.length := by rw [ha.len, hc.len]
    exact ⟨hl, lexB_get r c hl h2⟩
/-- More threads of one colour. -/
def moreT (t : Task) (k : Nat) (n : Int) : Task :=
  { t with s0 := if k = 0 then n else t.s0, s1 := if k = 1 then n else t.s1, s2 := if k = 2 then n else t.s2, s3 := if k = 3 then n else t.s3, s4 := if k = 4 then n else t.s4, s5 := if k = 5 then n else t.s5 }
theorem moreT_supply (t : Task) {k : Nat} (hk : k < 6) (n : Int) (c : Nat) (hc : c < 6) : (moreT t k n).supply[c]?.getD 0 = if k = c then n else t.supply[c]?.getD 0 := by
  have hc' : c = 0 ∨ c = 1 ∨ c = 2 ∨ c = 3 ∨ c = 4 ∨ c = 5 := by omega
  rcases hc' with rfl | rfl | rfl | rfl | rfl | rfl <;> simp [moreT, Task.supply]
theorem moreT_ok {t : Task} (h : t.ok) {k : Nat} (hk : k < 6) {n : Int} (hn : 0 ≤ n ∧ n ≤ 100) : (moreT t k n).ok :=
  ⟨h.threads, h.over, h.wish, h.pair, fun c hc => by
    rw [moreT_supply t hk n c hc]
    split
    · exact hn
    · exact h.supply c hc⟩
/-- One wish more. -/
def wishT (t : Task) (x : Wish) : Task := { t with wishes := t.wishes ++ [x] }
theorem wishT_ok {t : Task} (h : t.ok) {x : Wish} (hx : 0 ≤ x.cross ∧ x.cross < t.cloth.crosses.length ∧ x.allowed < 64) : (wishT t x).ok :=
  ⟨h.threads, h.over, fun y hy => by
    simp only [wishT, List.mem_append, List.mem_singleton] at hy
    rcases hy with hy | rfl
    · exact h.wish y hy
    · exact hx, h.pair, h.supply⟩
theorem taskB_zero {t : Task} : taskB t = 0 ↔ clothB t.cloth = 0 ∧ t.cloth.threads ≤ 16 ∧ t.wishes.length ≤ 100 ∧ t.unlike.length ≤ 100 ∧ goodB t = true := by
  unfold taskB
  by_cases h1 : clothB t.cloth = 0
  · rw [if_neg (by simpa using h1)]
    by_cases h2 : 16 < t.cloth.threads ∨ 100 < t.wishes.length ∨ 100 < t.unlike.length
    · rw [if_pos h2]
      constructor
      · intro h; omega
      · rintro ⟨-, h3, h4, h5, -⟩; omega
    · rw [if_neg h2]
      by_cases h3 : goodB t = true
      · rw [if_pos h3]; simp only [true_iff]; exact ⟨h1, by omega, by omega, by omega, h3⟩
      · rw [if_neg h3]
        constructor
        · intro h; omega
        · rintro ⟨-, -, -, -, h⟩; exact absurd h h3
  · rw [if_pos h1]
    exact ⟨fun h => absurd h h1, fun h => h.1⟩
theorem solveR_zero {t : Task} (h0 : taskB t = 0) : solveR t = resOf (solveB t t.cloth.threads.toNat []) := by unfold solveR; rw [if_neg (by simpa using h0)]
theorem more_zero {t : Task} (h0 : taskB t = 0) {k : Nat} (hk : k < 6) {n : Int} (hn : 0 ≤ n ∧ n ≤ 100) : taskB (moreT t k n) = 0 := by
  obtain ⟨h1, h2, h3, h4, h5⟩ := taskB_zero.1 h0
  refine taskB_zero.2 ⟨h1, h2, h3, h4, ?_⟩
  unfold goodB at h5 ⊢
  simp only [Bool.and_eq_true] at h5 ⊢
  refine ⟨h5.1, ?_⟩
  have h6 := h5.2
  unfold supplyOk at h6 ⊢
  rw [List.all_eq_true] at h6 ⊢
  intro c hc
  rw [moreT_supply t hk n c (by simpa using hc)]
  split
  · simp [hn.1, hn.2]
  · exact h6 c hc
theorem more_ways {t : Task} (h0 : taskB t = 0) {k : Nat} (hk : k < 6) {n : Int} (hn : t.supply[k]?.getD 0 ≤ n ∧ n ≤ 100) :
    (∃ r m, solveR t = (r, 0) ∧ solveR (moreT t k n) = (m, 0) ∧ m.length = r.length ∧ ∀ i, i < m.length → (∀ j, j < i → m.getD j 0 = r.getD j 0) → m.getD i 0 ≠ r.getD i 0 → m.getD i 0 < r.getD i 0) ∨ solveR t = ([], 4) := by
  have hok := taskB_ok h0
  have hs := hok.supply k hk
  have h1 := more_zero h0 hk (n := n) ⟨by omega, hn.2⟩
  rw [solveR_zero h0, solveR_zero h1]
  cases hr : solveB t t.cloth.threads.toNat [] with
  | none => exact .inr rfl
  | some r =>
    left
    obtain ⟨m, h2, h3, h4⟩ := solve_less hok (taskB_ok h1) rfl (fun l hc hp => ⟨fun c hc => by
      rw [moreT_supply t hk n c hc]
      have := hp.supply c hc
      split
      · rename_i e; subst e; omega
      · exact this, hp.wish, hp.pair⟩) hr
    exact ⟨r, m, rfl, by rw [h2]; rfl, h4, lexB_get m r h4 h3⟩
theorem wish_zero {t : Task} (h0 : taskB t = 0) (hl : t.wishes.length < 100) {x : Wish} (hx : 0 ≤ x.cross ∧ x.cross < t.cloth.crosses.length ∧ x.allowed < 64) : taskB (wishT t x) = 0 := by
  obtain ⟨h1, h2, h3, h4, h5⟩ := taskB_zero.1 h0
  refine taskB_zero.2 ⟨h1, h2, by simp [wishT]; omega, h4, ?_⟩
  unfold goodB at h5 ⊢
  simp only [Bool.and_eq_true] at h5 ⊢
  refine ⟨⟨?_, h5.1.2⟩, h5.2⟩
  simp only [wishT, List.all_append, h5.1.1, Bool.true_and, List.all_cons, List.all_nil, Bool.and_true]
  simp [wishOk, isB, hx.1, hx.2.1, hx.2.2]
theorem bits63 : ∀ c : Nat, c < 6 → (63 : Nat).testBit c = true := by decide
theorem wish_same {t : Task} (h0 : taskB t = 0) (hl : t.wishes.length < 100) {q : Int} (hq : 0 ≤ q ∧ q < t.cloth.crosses.length) : solveR (wishT t ⟨q, 63⟩) = solveR t := by
  have h1 := wish_zero h0 hl (x := ⟨q, 63⟩) ⟨hq.1, hq.2, show (63 : Nat) < 64 by decide⟩
  rw [solveR_zero h0, solveR_zero h1]
  rw [show (wishT t ⟨q, 63⟩).cloth.threads.toNat = t.cloth.threads.toNat from rfl]
  rw [solve_same (taskB_ok h0) (taskB_ok h1) rfl (fun l hc => ⟨fun hp => ⟨hp.supply, fun w hw hlt => ?_, hp.pair⟩, fun hp => ⟨hp.supply, fun w hw hlt => hp.wish w (by simp [wishT, hw]) hlt, hp.pair⟩⟩) _ [] (by intro x hx; cases hx)]
  simp only [wishT, List.mem_append, List.mem_singleton] at hw
  rcases hw with hw | rfl
  · exact hp.wish w hw hlt
  · have hm : l.getD (ov t q) 0 ∈ l := by
      have hlt : ov t q < l.length := hlt
      rw [List.getD_eq_getElem?_getD, List.getElem?_eq_getElem hlt]
      exact List.getElem_mem hlt
    have := hc _ hm
    exact bits63 _ (by have h := this; show (l.getD (ov t q) 0).toNat < 6; omega)
theorem wish_ways {t : Task} (h0 : taskB t = 0) {r : List Int} (hr : solveR t = (r, 0)) (x : Wish) :
    (solveR (wishT t x)).2 ≠ 0 ∨ ∃ m, solveR (wishT t x) = (m, 0) ∧ taskB (wishT t x) = 0 ∧ m.length = r.length ∧ ∀ i, i < r.length → (∀ j, j < i → r.getD j 0 = m.getD j 0) → r.getD i 0 ≠ m.getD i 0 → r.getD i 0 < m.getD i 0 := by
  by_cases h1 : taskB (wishT t x) = 0
  · rw [solveR_zero h1]
    rw [solveR_zero h0] at hr
    cases hm : solveB (wishT t x) (wishT t x).cloth.threads.toNat [] with
    | none => left; simp [resOf]
    | some m =>
      right
      obtain ⟨l, h2, h3, h4⟩ := solve_less (taskB_ok h1) (taskB_ok h0) rfl (fun l hc hp => ⟨hp.supply, fun w hw hlt => hp.wish w (by simp [wishT, hw]) hlt, hp.pair⟩) hm
      rw [h2] at hr
      have e : l = r := by have := congrArg Prod.fst hr; simpa [resOf] using this
      subst e
      exact ⟨m, rfl, h1, h4.symm, lexB_get l m h4 h3⟩
  · left
    unfold solveR
    rw [if_pos (by simpa using h1)]
    exact h1
theorem asc_len {n : Nat} : ∀ (e : List Nat) (f : Nat), e.Pairwise (· < ·) → (∀ i ∈ e, f ≤ i ∧ i < n) → e.length ≤ n - f
  | [], f, _, _ => by simp
  | a :: e, f, hp, hb => by
    rw [List.pairwise_cons] at hp
    have h1 := hb a (List.mem_cons_self ..)
    have := asc_len (n := n) e (a + 1) hp.2 fun i hi => ⟨hp.1 i hi, (hb i (List.mem_cons_of_mem _ hi)).2⟩
    rw [List.length_cons]; omega
theorem with_zero {t : Task} (h0 : taskB t = 0) {l : List Nat} (hl : ∀ i ∈ l, i < t.wishes.length) (hn : l.length ≤ 100) : taskB (withT t l) = 0 := by
  obtain ⟨h1, h2, h3, h4, h5⟩ := taskB_zero.1 h0
  refine taskB_zero.2 ⟨h1, h2, by simpa [withT] using hn, h4, ?_⟩
  unfold goodB at h5 ⊢
  simp only [Bool.and_eq_true] at h5 ⊢
  refine ⟨⟨?_, h5.1.2⟩, h5.2⟩
  rw [List.all_eq_true]
  intro w hw
  simp only [withT, List.mem_map] at hw
  obtain ⟨i, hi, rfl⟩ := hw
  exact List.all_eq_true.1 h5.1.1 _ (getD_mem (hl i hi))
theorem bad_two {t : Task} (h0 : taskB t = 0) {l : List Nat} (hl : ∀ i ∈ l, i < t.wishes.length) (hn : l.length ≤ 100) : (solveR (withT t l)).2 = if badB t l then 4 else 0 := by
  rw [solveR_zero (with_zero h0 hl hn)]
  unfold badB
  rw [show (withT t l).cloth.threads.toNat = t.cloth.threads.toNat from rfl]
  cases solveB (withT t l) t.cloth.threads.toNat [] <;> rfl
/-- The two ways of the law DyeingClashes. -/
theorem clash_ways {t : Task} (h0 : taskB t = 0) (h10 : t.wishes.length ≤ 10) :
    (∃ r, solveR t = (r, 0) ∧ clashR t = ([], 4)) ∨
    ∃ c : List Nat, solveR t = ([], 4) ∧ clashR t = (c.map (fun (i : Nat) => (i : Int)), 0) ∧ (∀ i ∈ c, i < t.wishes.length) ∧ c.Pairwise (· < ·) ∧ c.length ≤ 10 ∧ (solveR (withT t c)).2 = 4 ∧ ∀ i, i < c.length → (solveR (withT t (c.eraseIdx i))).2 = 0 := by
  have hk := taskB_ok h0
  have hc : clashR t = match clashF t with
    | none => ([], 4)
    | some l => (l.map fun (i : Nat) => (i : Int), 0) := by
    unfold clashR
    rw [if_neg (by simpa using h0), if_neg (by omega)]
    rfl
  rw [solveR_zero h0, hc]
  cases hf : clashF t with
  | none =>
    left
    obtain ⟨r, hr⟩ := Option.isSome_iff_exists.1 ((clashF_none hk).1 hf)
    exact ⟨r, by rw [hr]; rfl, rfl⟩
  | some c =>
    right
    obtain ⟨h1, h2, h3, h4⟩ := clashF_some hf
    have hlen := asc_len (n := t.wishes.length) c 0 h3 fun i hi => ⟨Nat.zero_le _, h2 i hi⟩
    have hs : solveB t t.cloth.threads.toNat [] = none := by
      cases hs : solveB t t.cloth.threads.toNat [] with
      | none => rfl
      | some r =>
        have := (clashF_none hk).2 (by rw [hs]; rfl)
        rw [hf] at this; cases this
    refine ⟨c, by rw [hs]; rfl, rfl, h2, h3, by omega, by rw [bad_two h0 h2 (by omega), h1]; rfl, fun i hi => ?_⟩
    have hsub := List.eraseIdx_sublist c i
    have hm : ∀ j ∈ c.eraseIdx i, j < t.wishes.length := fun j hj => h2 j (hsub.subset hj)
    have hl : (c.eraseIdx i).length < c.length := by rw [List.length_eraseIdx]; split <;> omega
    rw [bad_two h0 hm (by omega), h4 _ hl (h3.sublist hsub) hm]
    rfl
end Go.Proofs.YtegbbkmppphddaaDoor
