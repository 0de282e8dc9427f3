/- What the search finds is the least arrangement, in plain Lean; more wishes, more threads. -/
import Derived.Test.YtegbbkmppphddaaMadeM
import Derived.Test.YtegbbkmppphddaaRefA
set_option linter.unusedVariables false
set_option linter.unusedSimpArgs false
namespace Go.Proofs.Ytegbbkmppphddaa

/-- The first difference of two lists, as the statements read it: is the first list no greater? -/
def lexB : List Int → List Int → Bool
  | a :: l, b :: m => if a = b then lexB l m else decide (a < b)
  | _, _ => true
theorem lexB_append (l : List Int) (e e' : List Int) : lexB (l ++ e) (l ++ e') = lexB e e' := by
  induction l with
  | nil => rfl
  | cons a l ih => simp [lexB, ih]
theorem poss_prefix {t : Task} {l e : List Int} (h : Poss t (l ++ e)) : Poss t l := by
  have hg : ∀ k, k < l.length → (l ++ e).getD k 0 = l.getD k 0 := fun k hk => by simp [List.getElem?_append_left hk]
  refine ⟨fun c hc => ?_, fun w hw hlt => ?_, fun u hu h1 h2 => ?_⟩
  · have := h.supply c hc
    rw [countC_append] at this
    omega
  · have := h.wish w hw (by simp; omega)
    rwa [hg _ hlt] at this
  · have := h.pair u hu (by simp; omega) (by simp; omega)
    rwa [hg _ h1, hg _ h2] at this
theorem findSome_least {α : Type} {f : Nat → Option α} {n c : Nat} (hc : c < n) {x : α} (h : f c = some x) : ∃ k y, k ≤ c ∧ f k = some y ∧ (List.range n).findSome? f = some y ∧ ∀ j, j < k → f j = none := by
  induction c using Nat.strongRecOn generalizing x with
  | ind c ih =>
    by_cases hall : ∀ j, j < c → f j = none
    · exact ⟨c, x, Nat.le_refl _, h, findSome_yes hc hall h, hall⟩
    · have : ∃ j, j < c ∧ f j ≠ none := by
        refine Classical.byContradiction fun hn => hall fun j hj => ?_
        exact Classical.byContradiction fun hf => hn ⟨j, hj, hf⟩
      obtain ⟨j, hj, hf⟩ := this
      cases hy : f j with
      | none => exact absurd hy hf
      | some y =>
        obtain ⟨k, z, h1, h2, h3, h4⟩ := ih j hj (by omega) hy
        exact ⟨k, z, by omega, h2, h3, h4⟩
/-- Where there is an arrangement the search finds one, and none is less. -/
theorem solveB_least {t : Task} (hk : t.ok) : ∀ (n : Nat) (l e' : List Int), Cols (l ++ e') → e'.length = n → Poss t (l ++ e') → ∃ e, solveB t n l = some (l ++ e) ∧ e.length = n ∧ lexB e e' = true
  | 0, l, e', hc, hl, hp => by
    obtain rfl := List.eq_nil_of_length_eq_zero hl
    refine ⟨[], ?_, rfl, rfl⟩
    have hb : possibleB t l = true := (poss_iff hk (by simpa using hc)).2 (by simpa using hp)
    simp [solveB, hb]
  | n + 1, l, [], _, hl, _ => by cases hl
  | n + 1, l, x :: e', hc, hl, hp => by
    have hb : possibleB t l = true := (poss_iff hk (fun y hy => hc y (List.mem_append_left _ hy))).2 (poss_prefix hp)
    have hx := hc x (by simp)
    obtain ⟨c, hxc⟩ := Int.eq_ofNat_of_zero_le hx.1
    have hc6 : c < 6 := by omega
    subst hxc
    have he : l ++ (c : Int) :: e' = (l ++ [(c : Int)]) ++ e' := by simp
    rw [he] at hc hp
    obtain ⟨e, h1, h2, h3⟩ := solveB_least hk n (l ++ [(c : Int)]) e' hc (by simpa using hl) hp
    obtain ⟨k, y, hkc, hfk, hfind, -⟩ := findSome_least (f := fun (c : Nat) => solveB t n (l ++ [(c : Int)])) hc6 h1
    unfold solveB
    rw [if_pos hb, hfind]
    by_cases hkc' : k = c
    · subst hkc'
      have : y = l ++ [(k : Int)] ++ e := by
        have := hfk.symm.trans h1
        simpa using this
      subst this
      exact ⟨(k : Int) :: e, by simp, by simp [h2], by simp [lexB, h3]⟩
    · obtain ⟨e2, rfl, h4, -, -⟩ := solveB_some _ _ _ hfk
      refine ⟨(k : Int) :: e2, by simp, by simp [h4], ?_⟩
      have h1 : (k : Int) ≠ (c : Int) := by omega
      have h2 : (k : Int) < (c : Int) := by omega
      simp [lexB, h1, h2]
/-- The colours of a valid task: so many as threads. -/
structure Arr (t : Task) (l : List Int) : Prop where
  len : l.length = t.cloth.threads.toNat
  cols : Cols l
  poss : Poss t l
theorem solve_arr {t : Task} (hk : t.ok) {l : List Int} (h : solveB t t.cloth.threads.toNat [] = some l) : Arr t l := by
  obtain ⟨e, rfl, h1, h2, h3⟩ := solveB_some _ _ _ h
  exact ⟨by simpa using h1, by simpa using h2, (poss_iff hk (by simpa using h2)).1 h3⟩
theorem solve_least {t : Task} (hk : t.ok) {m : List Int} (h : Arr t m) : ∃ l, solveB t t.cloth.threads.toNat [] = some l ∧ lexB l m = true := by
  obtain ⟨e, h1, -, h3⟩ := solveB_least hk t.cloth.threads.toNat [] m (by simpa using h.cols) h.len (by simpa using h.poss)
  exact ⟨e, by simpa using h1, h3⟩
/-- A task that asks for less finds no greater list. -/
theorem solve_less {t t' : Task} (hk : t.ok) (hk' : t'.ok) (hn : t'.cloth.threads = t.cloth.threads) (hp : ∀ l, Cols l → Poss t l → Poss t' l) {l : List Int} (h : solveB t t.cloth.threads.toNat [] = some l) :
    ∃ m, solveB t' t'.cloth.threads.toNat [] = some m ∧ lexB m l = true ∧ m.length = l.length := by
  have ha := solve_arr hk h
  obtain ⟨m, h1, h2⟩ := solve_least hk' (m := l) ⟨by rw [hn]; exact ha.len, ha.cols, hp l ha.cols ha.poss⟩
  refine ⟨m, h1, h2, ?_⟩
  rw [(solve_arr hk' h1).len, hn, ha.len]
theorem solve_same {t t' : Task} (hk : t.ok) (hk' : t'.ok) (hn : t'.cloth.threads = t.cloth.threads) (hp : ∀ l, Cols l → (Poss t l ↔ Poss t' l)) : ∀ (n : Nat) (l : List Int), Cols l → solveB t n l = solveB t' n l
  | 0, l, hc => by
    have : possibleB t l = possibleB t' l := by
      rw [Bool.eq_iff_iff, poss_iff hk hc, poss_iff hk' hc]; exact hp l hc
    simp [solveB, this]
  | n + 1, l, hc => by
    have : possibleB t l = possibleB t' l := by
      rw [Bool.eq_iff_iff, poss_iff hk hc, poss_iff hk' hc]; exact hp l hc
    unfold solveB
    rw [this]
    congr 1
    have : ∀ c ∈ List.range 6, solveB t n (l ++ [((c : Nat) : Int)]) = solveB t' n (l ++ [((c : Nat) : Int)]) := fun c hc6 => solve_same hk hk' hn hp n _ (cols_snoc hc (by simpa using hc6))
    clear hp
    generalize List.range 6 = r at this
    induction r with
    | nil => rfl
    | cons c r ih =>
      rw [List.findSome?_cons, List.findSome?_cons, this c (List.mem_cons_self ..), ih fun d hd => this d (List.mem_cons_of_mem _ hd)]

/-! ### Lists as the statements compare them -/
/-- The first difference of two lists of one length, index by index. -/
theorem lexB_get : ∀ (l m : List Int), l.length = m.length → lexB l m = true → ∀ k, k < l.length → (∀ j, j < k → l.getD j 0 = m.getD j 0) → l.getD k 0 ≠ m.getD k 0 → l.getD k 0 < m.getD k 0
  | [], _, _, _, k, hk, _, _ => by simp at hk
  | a :: l, [], h, _, _, _, _, _ => by cases h
  | a :: l, b :: m, h, hx, 0, _, _, hne => by
    simp only [List.getD_cons_zero] at hne ⊢
    simp [lexB, hne] at hx
    exact hx
  | a :: l, b :: m, h, hx, k + 1, hk, hall, hne => by
    have h0 : a = b := by simpa using hall 0 (by omega)
    simp only [lexB, h0, if_true] at hx
    simp only [List.getD_cons_succ] at hne ⊢
    exact lexB_get l m (by simpa using h) hx k (by simpa using hk) (fun j hj => by simpa using hall (j + 1) (by omega)) hne
end Go.Proofs.Ytegbbkmppphddaa
