/- Sets of wishes, in plain Lean: the least list of wishes that cannot be met together. -/
import Derived.Test.YtegbbkmppphddaaLeast
set_option linter.unusedVariables false
set_option linter.unusedSimpArgs false
namespace Go.Proofs.Ytegbbkmppphddaa

/-- The lists of so many of the numbers from one on, the least ones first. -/
def combos (n : Nat) : Nat → Nat → List (List Nat)
  | 0, _ => [[]]
  | m + 1, f => (List.range' f (n - f)).flatMap fun i => (combos n m (i + 1)).map (i :: ·)
theorem combos_mem {n : Nat} : ∀ (m f : Nat) (e : List Nat), e ∈ combos n m f → e.length = m ∧ (∀ i ∈ e, f ≤ i ∧ i < n) ∧ e.Pairwise (· < ·)
  | 0, f, e, h => by
    have : e = [] := by simpa [combos] using h
    subst this; simp
  | m + 1, f, e, h => by
    simp only [combos, List.mem_flatMap, List.mem_map, List.mem_range'_1] at h
    obtain ⟨i, hi, e', he', rfl⟩ := h
    obtain ⟨h1, h2, h3⟩ := combos_mem m (i + 1) e' he'
    refine ⟨by simp [h1], ?_, ?_⟩
    · intro j hj
      rcases List.mem_cons.1 hj with rfl | hj
      · omega
      · have := h2 j hj; omega
    · rw [List.pairwise_cons]
      exact ⟨fun j hj => by have := h2 j hj; omega, h3⟩
theorem combos_all {n : Nat} : ∀ (e : List Nat) (f : Nat), e.Pairwise (· < ·) → (∀ i ∈ e, f ≤ i ∧ i < n) → e ∈ combos n e.length f
  | [], _, _, _ => by simp [combos]
  | i :: e, f, hp, hb => by
    rw [List.pairwise_cons] at hp
    have hi := hb i (List.mem_cons_self ..)
    simp only [combos, List.length_cons, List.mem_flatMap, List.mem_map, List.mem_range'_1]
    exact ⟨i, by omega, e, combos_all e (i + 1) hp.2 (fun j hj => by have h1 := hp.1 j hj; have h2 := hb j (List.mem_cons_of_mem _ hj); omega), rfl⟩

/-- A task with some of its wishes. -/
def withT (t : Task) (l : List Nat) : Task := { t with wishes := l.map fun i => t.wishes.getD i default }
def badB (t : Task) (l : List Nat) : Bool := (solveB (withT t l) t.cloth.threads.toNat []).isNone
/-- The least list of so many wishes more that cannot be met together, which begins so. -/
def clashL (t : Task) (m : Nat) (l : List Nat) (f : Nat) : Option (List Nat) := (combos t.wishes.length m f).findSome? fun e => if badB t (l ++ e) then some (l ++ e) else none
theorem clashL_zero (t : Task) (l : List Nat) (f : Nat) : clashL t 0 l f = if badB t l then some l else none := by
  simp [clashL, combos]
theorem findSome_flat {α β γ : Type} (f : β → Option γ) (g : α → List β) (l : List α) : (l.flatMap g).findSome? f = l.findSome? fun x => (g x).findSome? f := by
  induction l with
  | nil => rfl
  | cons a l ih => rw [List.flatMap_cons, List.findSome?_append, List.findSome?_cons, ih]; cases (g a).findSome? f <;> rfl
theorem clashL_succ (t : Task) (m : Nat) (l : List Nat) (f : Nat) : clashL t (m + 1) l f = (List.range' f (t.wishes.length - f)).findSome? fun i => clashL t m (l ++ [i]) (i + 1) := by
  unfold clashL
  rw [combos, findSome_flat]
  congr 1
  funext i
  rw [List.findSome?_map]
  congr 1
  funext e
  simp
/-- The wishes that cannot be met together: the least list of the fewest. -/
def clashF (t : Task) : Option (List Nat) := (List.range (t.wishes.length + 1)).findSome? fun m => clashL t m [] 0
/-- What Clash returns: a list, and an error. -/
def clashR (t : Task) : List Int × Int :=
  if taskB t ≠ 0 then ([], taskB t) else if 10 < t.wishes.length then ([], 3) else match clashF t with
    | none => ([], 4)
    | some l => (l.map fun (i : Nat) => (i : Int), 0)

theorem withT_ok {t : Task} (h : t.ok) {l : List Nat} (hl : ∀ i ∈ l, i < t.wishes.length) : (withT t l).ok :=
  ⟨h.threads, h.over, fun w hw => by
    simp only [withT, List.mem_map] at hw
    obtain ⟨i, hi, rfl⟩ := hw
    exact h.wish _ (getD_mem (hl i hi)), h.pair, h.supply⟩
theorem withT_poss {t : Task} {l : List Nat} (hl : ∀ i ∈ l, i < t.wishes.length) {c : List Int} (h : Poss t c) : Poss (withT t l) c :=
  ⟨h.supply, fun w hw => by
    simp only [withT, List.mem_map] at hw
    obtain ⟨i, hi, rfl⟩ := hw
    exact h.wish _ (getD_mem (hl i hi)), h.pair⟩
theorem withT_range (t : Task) : withT t (List.range t.wishes.length) = t := by
  have : (List.range t.wishes.length).map (fun i => t.wishes.getD i default) = t.wishes := by
    refine List.ext_getElem (by simp) fun i h1 h2 => ?_
    simp [h2]
  unfold withT
  rw [this]
/-- Where all wishes can be met together, so can some of them. -/
theorem bad_mono {t : Task} (hk : t.ok) {l : List Nat} (hl : ∀ i ∈ l, i < t.wishes.length) {r : List Int} (h : solveB t t.cloth.threads.toNat [] = some r) : badB t l = false := by
  obtain ⟨m, h1, -, -⟩ := solve_less hk (withT_ok hk hl) rfl (fun c _ => withT_poss hl) h
  have : solveB (withT t l) t.cloth.threads.toNat [] = some m := h1
  simp [badB, this]
theorem clashL_bad {t : Task} {m : Nat} {l : List Nat} {f : Nat} {r : List Nat} (h : clashL t m l f = some r) : ∃ e, e ∈ combos t.wishes.length m f ∧ r = l ++ e ∧ badB t r = true := by
  obtain ⟨e, he, hr⟩ := List.exists_of_findSome?_eq_some h
  split at hr
  · cases hr; exact ⟨e, he, rfl, by assumption⟩
  · cases hr
theorem clashL_none {t : Task} {m : Nat} {l : List Nat} {f : Nat} (h : clashL t m l f = none) : ∀ e ∈ combos t.wishes.length m f, badB t (l ++ e) = false := by
  unfold clashL at h
  rw [List.findSome?_eq_none_iff] at h
  intro e he
  have := h e he
  split at this
  · cases this
  · rename_i hb; simpa using hb
theorem clashF_some {t : Task} {r : List Nat} (h : clashF t = some r) : badB t r = true ∧ (∀ i ∈ r, i < t.wishes.length) ∧ r.Pairwise (· < ·) ∧
    ∀ e, e.length < r.length → e.Pairwise (· < ·) → (∀ i ∈ e, i < t.wishes.length) → badB t e = false := by
  unfold clashF at h
  obtain ⟨m, hm, hr⟩ := List.exists_of_findSome?_eq_some h
  have hm : m < t.wishes.length + 1 := by simpa using hm
  obtain ⟨k, y, hkm, hfk, hfind, hall⟩ := findSome_least (f := fun m => clashL t m [] 0) hm hr
  rw [hfind] at h
  cases h
  obtain ⟨e, he, hre, hb⟩ := clashL_bad hfk
  try rw [List.nil_append] at hre
  subst hre
  obtain ⟨h1, h2, h3⟩ := combos_mem _ _ _ he
  refine ⟨hb, fun i hi => (h2 i hi).2, h3, fun e' hl hp hb' => ?_⟩
  have := clashL_none (hall e'.length (by omega)) e' (combos_all e' 0 hp (fun i hi => ⟨Nat.zero_le _, hb' i hi⟩))
  simpa using this
theorem range_pairwise (n : Nat) : (List.range n).Pairwise (· < ·) := by
  rw [List.range_eq_range']
  exact List.pairwise_lt_range'
theorem clashF_none {t : Task} (hk : t.ok) : clashF t = none ↔ (solveB t t.cloth.threads.toNat []).isSome = true := by
  constructor
  · intro h
    unfold clashF at h
    rw [List.findSome?_eq_none_iff] at h
    have h1 := h t.wishes.length (by simp)
    have h2 := clashL_none h1 (List.range t.wishes.length) (by
      have := combos_all (n := t.wishes.length) (List.range t.wishes.length) 0 (range_pairwise _) (fun i hi => ⟨Nat.zero_le _, by simpa using hi⟩)
      simpa using this)
    rw [List.nil_append] at h2
    unfold badB at h2
    rw [withT_range] at h2
    cases hs : solveB t t.cloth.threads.toNat [] with
    | none => rw [hs] at h2; cases h2
    | some r => rfl
  · intro h
    cases hs : solveB t t.cloth.threads.toNat [] with
    | none => rw [hs] at h; cases h
    | some r =>
      cases hc : clashF t with
      | none => rfl
      | some c =>
        obtain ⟨h1, h2, -, -⟩ := clashF_some hc
        rw [bad_mono hk h2 hs] at h1
        cases h1

/-! ### Sets as bits -/
theorem filter_asc {n : Nat} : ∀ (e : List Nat) (f : Nat), e.Pairwise (· < ·) → (∀ i ∈ e, f ≤ i ∧ i < n) → (List.range' f (n - f)).filter (fun i => decide (i ∈ e)) = e
  | [], f, _, _ => by simp
  | i :: e, f, hp, hb => by
    rw [List.pairwise_cons] at hp
    have hi := hb i (List.mem_cons_self ..)
    have hs : List.range' f (n - f) = List.range' f (i - f) ++ i :: List.range' (i + 1) (n - (i + 1)) := by
      rw [show n - f = (i - f) + (n - i) by omega, ← List.range'_append_1, show f + (i - f) = i by omega, show n - i = (n - (i + 1)) + 1 by omega, List.range'_succ]
    rw [hs, List.filter_append, List.filter_cons]
    have h1 : (List.range' f (i - f)).filter (fun j => decide (j ∈ i :: e)) = [] := by
      rw [List.filter_eq_nil_iff]
      intro j hj
      rw [List.mem_range'_1] at hj
      simp only [decide_eq_true_eq, List.mem_cons, not_or]
      refine ⟨by omega, fun hje => ?_⟩
      have := hp.1 j hje; omega
    have ih := filter_asc (n := n) e (i + 1) hp.2 (fun j hj => by have h1 := hp.1 j hj; have h2 := hb j (List.mem_cons_of_mem _ hj); omega)
    have h2 : (List.range' (i + 1) (n - (i + 1))).filter (fun j => decide (j ∈ i :: e)) = e := by
      refine Eq.trans (List.filter_congr fun j hj => ?_) ih
      rw [List.mem_range'_1] at hj
      have : j ≠ i := by omega
      simp [this]
    rw [h1, h2]
    simp
/-- The set of a list. -/
def setOf (e : List Nat) : Nat := e.foldl (fun s i => s ||| 2 ^ i) 0
theorem setOf_snoc (e : List Nat) (i : Nat) : setOf (e ++ [i]) = setOf e ||| 2 ^ i := by simp [setOf]
theorem setOf_fold (e : List Nat) : ∀ s k, (e.foldl (fun s i => s ||| 2 ^ i) s).testBit k = (s.testBit k || decide (k ∈ e)) := by
  induction e with
  | nil => simp
  | cons i e ih =>
    intro s k
    rw [List.foldl_cons, ih, Nat.testBit_or, Nat.testBit_two_pow]
    simp only [List.mem_cons]
    by_cases h : k = i
    · subst h; simp
    · have : ¬ i = k := fun h' => h h'.symm
      simp [h, this]
theorem setOf_bit (e : List Nat) (k : Nat) : (setOf e).testBit k = decide (k ∈ e) := by unfold setOf; rw [setOf_fold]; simp
theorem setOf_lt {e : List Nat} {n : Nat} (h : ∀ i ∈ e, i < n) : setOf e < 2 ^ n := by
  refine Nat.lt_pow_two_of_testBit _ fun k hk => ?_
  rw [setOf_bit]
  simp only [decide_eq_false_iff_not]
  intro hm
  have := h k hm; omega
theorem pick_with {t : Task} {e : List Nat} (hp : e.Pairwise (· < ·)) (hb : ∀ i ∈ e, i < t.wishes.length) : pickT t (fun i => (setOf e).testBit i) = withT t e := by
  have h := filter_asc (n := t.wishes.length) e 0 hp (fun i hi => ⟨Nat.zero_le _, hb i hi⟩)
  unfold pickT withT picked
  rw [List.range_eq_range']
  simp only [setOf_bit]
  rw [Nat.sub_zero] at h
  rw [h]

/-- The bits of a small set, the least ones first. -/
def bitsOf (v : Nat) : List Nat := (List.range' 0 (10 - 0)).filter fun i => v.testBit i
theorem bitsOf_set {e : List Nat} (hp : e.Pairwise (· < ·)) (hb : ∀ i ∈ e, i < 10) : bitsOf (setOf e) = e := by
  unfold bitsOf
  simp only [setOf_bit]
  exact filter_asc (n := 10) e 0 hp (fun i hi => ⟨Nat.zero_le _, hb i hi⟩)
end Go.Proofs.Ytegbbkmppphddaa
