/- The program's problem, in plain Lean: when its search goes on is when the reference's does. -/
import Derived.Test.YtegbbkmppphddaaRefA
set_option linter.unusedVariables false
set_option linter.unusedSimpArgs false
namespace Go.Proofs.Ytegbbkmppphddaa

/-! ### Bits -/
def clr (x c : Nat) : Nat := x &&& (255 - 2 ^ c)
set_option maxRecDepth 100000 in
theorem clr_tab : ∀ x, x < 64 → ∀ c, c < 6 → clr x c < 64 ∧ ∀ d, d < 6 → (clr x c).testBit d = (x.testBit d && !decide (d = c)) := by decide
theorem clr_lt {x c : Nat} (hx : x < 64) (hc : c < 6) : clr x c < 64 := (clr_tab x hx c hc).1
theorem clr_bit {x c d : Nat} (hx : x < 64) (hc : c < 6) (hd : d < 6) : (clr x c).testBit d = (x.testBit d && !decide (d = c)) := (clr_tab x hx c hc).2 d hd

/-! ### The thread of a crossing; what is possible -/
def ov (t : Task) (x : Int) : Nat := ((t.cloth.crosses.getD x.toNat default).over).toNat
structure Poss (t : Task) (l : List Int) : Prop where
  supply : ∀ c : Nat, c < 6 → (countC l (c : Int) : Int) ≤ t.supply[c]?.getD 0
  wish : ∀ w ∈ t.wishes, ov t w.cross < l.length → w.allowed.testBit (l.getD (ov t w.cross) 0).toNat = true
  pair : ∀ u ∈ t.unlike, ov t u.1 < l.length → ov t u.2 < l.length → l.getD (ov t u.1) 0 ≠ l.getD (ov t u.2) 0

theorem ok_over {t : Task} (h : t.ok) {x : Int} (h0 : 0 ≤ x) (h1 : x < t.cloth.crosses.length) : 0 ≤ (t.cloth.crosses.getD x.toNat default).over ∧ (t.cloth.crosses.getD x.toNat default).over < t.cloth.threads := by
  have hl : x.toNat < t.cloth.crosses.length := by omega
  rw [List.getD_eq_getElem?_getD, List.getElem?_eq_getElem hl, Option.getD_some]
  exact h.over _ (List.getElem_mem hl)
theorem ov_lt {t : Task} (h : t.ok) {x : Int} (h0 : 0 ≤ x) (h1 : x < t.cloth.crosses.length) : ov t x < t.cloth.threads.toNat := by
  have := ok_over h h0 h1
  unfold ov; omega
theorem cols_getD {l : List Int} (h : Cols l) (k : Nat) : 0 ≤ l.getD k 0 ∧ l.getD k 0 < 6 := by
  rw [List.getD_eq_getElem?_getD]
  rcases Nat.lt_or_ge k l.length with hk | hk
  · rw [List.getElem?_eq_getElem hk]; exact h _ (List.getElem_mem hk)
  · rw [List.getElem?_eq_none hk]; simp
theorem seen_ov {t : Task} (h : t.ok) {l : List Int} {x : Int} (h0 : 0 ≤ x) (h1 : x < t.cloth.crosses.length) : seenB t l x = if ov t x < l.length then l.getD (ov t x) 0 else -1 := by
  have := ok_over h h0 h1
  unfold seenB ov
  dsimp only
  by_cases hc : (t.cloth.crosses.getD x.toNat default).over ≥ l.length
  · rw [if_pos hc, if_neg (by omega)]
  · rw [if_neg hc, if_pos (by omega)]
theorem poss_iff {t : Task} (h : t.ok) {l : List Int} (hc : Cols l) : possibleB t l = true ↔ Poss t l := by
  unfold possibleB supplyB
  simp only [Bool.and_eq_true, List.all_eq_true]
  constructor
  · rintro ⟨⟨hs, hw⟩, hp⟩
    refine ⟨fun c hc6 => by simpa using hs c (by simpa using hc6), ?_, ?_⟩
    · intro w hwm hlt
      have hb := h.wish w hwm
      have := hw w hwm
      unfold wishB at this
      rw [seen_ov h hb.1 hb.2.1, if_pos hlt] at this
      have hg := cols_getD hc (ov t w.cross)
      generalize l.getD (ov t w.cross) 0 = v at *
      simp [hg.1] at this
      exact this
    · intro u hum h1 h2
      have hb := h.pair u hum
      have := hp u hum
      unfold pairB at this
      rw [seen_ov h hb.1 hb.2.1, seen_ov h hb.2.2.1 hb.2.2.2.1, if_pos h1, if_pos h2] at this
      have hg := cols_getD hc (ov t u.1)
      intro he
      rw [he] at this hg
      generalize l.getD (ov t u.2) 0 = v at *
      simp [hg.1] at this
  · rintro ⟨hs, hw, hp⟩
    refine ⟨⟨fun c hc6 => by simpa using hs c (by simpa using hc6), ?_⟩, ?_⟩
    · intro w hwm
      have hb := h.wish w hwm
      unfold wishB
      rw [seen_ov h hb.1 hb.2.1]
      by_cases hlt : ov t w.cross < l.length
      · rw [if_pos hlt, hw w hwm hlt]; simp
      · rw [if_neg hlt]; rfl
    · intro u hum
      have hb := h.pair u hum
      unfold pairB
      rw [seen_ov h hb.1 hb.2.1, seen_ov h hb.2.2.1 hb.2.2.2.1]
      by_cases h1 : ov t u.1 < l.length
      · by_cases h2 : ov t u.2 < l.length
        · rw [if_pos h1, if_pos h2]
          have := hp u hum h1 h2
          generalize l.getD (ov t u.1) 0 = v at *
          generalize l.getD (ov t u.2) 0 = v' at *
          simp [this]
        · rw [if_pos h1, if_neg h2]
          have hg := cols_getD hc (ov t u.1)
          simp; omega
      · rw [if_neg h1]; rfl

theorem getD_snoc_lt {l : List Int} {c : Int} {k : Nat} (h : k < l.length) : (l ++ [c]).getD k 0 = l.getD k 0 := by simp [List.getElem?_append_left h]
theorem getD_snoc_eq {l : List Int} {c : Int} : (l ++ [c]).getD l.length 0 = c := by simp
theorem countC_snoc (l : List Int) (c d : Int) : countC (l ++ [c]) d = countC l d + if c = d then 1 else 0 := by
  rw [countC_append]
  congr 1
  by_cases h : c = d <;> simp [countC, h]

theorem poss_snoc {t : Task} {l : List Int} (hp : Poss t l) {c : Nat} (hc : c < 6) : Poss t (l ++ [(c : Int)]) ↔
    ((countC l (c : Int) : Int) < t.supply[c]?.getD 0 ∧ (∀ w ∈ t.wishes, ov t w.cross = l.length → w.allowed.testBit c = true) ∧
      (∀ u ∈ t.unlike, (ov t u.1 = l.length → ov t u.2 < l.length → l.getD (ov t u.2) 0 ≠ c) ∧ (ov t u.2 = l.length → ov t u.1 < l.length → l.getD (ov t u.1) 0 ≠ c) ∧ ¬ (ov t u.1 = l.length ∧ ov t u.2 = l.length))) := by
  constructor
  · rintro ⟨hs, hw, hu⟩
    refine ⟨?_, ?_, ?_⟩
    · have := hs c hc
      rw [countC_snoc, if_pos rfl] at this
      omega
    · intro w hwm he
      have := hw w hwm (by rw [he]; simp)
      rwa [he, getD_snoc_eq] at this
    · intro u hum
      refine ⟨fun h1 h2 => ?_, fun h1 h2 => ?_, fun ⟨h1, h2⟩ => ?_⟩
      · have := hu u hum (by rw [h1]; simp) (by simp; omega)
        rw [h1, getD_snoc_eq, getD_snoc_lt h2] at this
        exact fun h => this h.symm
      · have := hu u hum (by simp; omega) (by rw [h1]; simp)
        rw [h1, getD_snoc_eq, getD_snoc_lt h2] at this
        exact this
      · exact hu u hum (by rw [h1]; simp) (by rw [h2]; simp) (by rw [h1, h2])
  · rintro ⟨hs, hw, hu⟩
    refine ⟨fun d hd => ?_, fun w hwm hlt => ?_, fun u hum h1 h2 => ?_⟩
    · have := hp.supply d hd
      rw [countC_snoc]
      split
      · rename_i he
        have he' : c = d := by exact_mod_cast he
        subst he'
        omega
      · omega
    · simp only [List.length_append, List.length_cons, List.length_nil] at hlt
      rcases Nat.lt_or_ge (ov t w.cross) l.length with h | h
      · rw [getD_snoc_lt h]; exact hp.wish w hwm h
      · have he : ov t w.cross = l.length := by omega
        rw [he, getD_snoc_eq]; exact hw w hwm he
    · simp only [List.length_append, List.length_cons, List.length_nil] at h1 h2
      obtain ⟨q1, q2, q3⟩ := hu u hum
      rcases Nat.lt_or_ge (ov t u.1) l.length with k1 | k1
      · rcases Nat.lt_or_ge (ov t u.2) l.length with k2 | k2
        · rw [getD_snoc_lt k1, getD_snoc_lt k2]; exact hp.pair u hum k1 k2
        · have he : ov t u.2 = l.length := by omega
          rw [getD_snoc_lt k1, he, getD_snoc_eq]; exact q2 he k1
      · have he1 : ov t u.1 = l.length := by omega
        rcases Nat.lt_or_ge (ov t u.2) l.length with k2 | k2
        · rw [getD_snoc_lt k2, he1, getD_snoc_eq]; exact fun h => q1 he1 k2 h.symm
        · exact absurd ⟨he1, by omega⟩ q3

/-! ### The problem -/
structure Prob where
  may : List Nat
  unl : List Nat
  left : List Int
  many : Nat
  never : Bool
structure Prob.wf (p : Prob) : Prop where
  may : p.may.length = 16
  unl : p.unl.length = 16
  left : p.left.length = 6
  many : p.many ≤ 16
  mayB : ∀ k, p.may.getD k 0 < 64
  unlB : ∀ k, p.unl.getD k 0 < 65536
  leftB : ∀ k, 0 ≤ p.left.getD k 0 ∧ p.left.getD k 0 ≤ 100

/-- The problem of a task's beginning. -/
structure Matches (p : Prob) (t : Task) : Prop where
  many : p.many = t.cloth.threads.toNat
  left : p.left = t.supply
  may : ∀ k, k < p.many → ∀ c, c < 6 → ((p.may.getD k 0).testBit c = true ↔ ∀ w ∈ t.wishes, ov t w.cross = k → w.allowed.testBit c = true)
  unl : ∀ j k, j < p.many → k < p.many → ((p.unl.getD j 0).testBit k = true ↔ ∃ u ∈ t.unlike, (ov t u.1 = j ∧ ov t u.2 = k) ∨ (ov t u.1 = k ∧ ov t u.2 = j))
  never : p.never = true ↔ ∃ u ∈ t.unlike, ov t u.1 = ov t u.2

/-- The problem where so many threads have their colours. -/
structure State (p0 : Prob) (l : List Int) (p : Prob) : Prop where
  wf : p.wf
  many : p.many = p0.many
  unl : p.unl = p0.unl
  never : p.never = p0.never
  left : ∀ c : Nat, c < 6 → p.left.getD c 0 = p0.left.getD c 0 - countC l (c : Int)
  may : ∀ k, l.length ≤ k → k < p.many → ∀ c : Nat, c < 6 → ((p.may.getD k 0).testBit c = true ↔ (p0.may.getD k 0).testBit c = true ∧ ∀ j, j < l.length → (p0.unl.getD j 0).testBit k = true → l.getD j 0 ≠ c)

theorem state_nil {p : Prob} (h : p.wf) : State p [] p := ⟨h, rfl, rfl, rfl, fun c _ => by simp [countC], fun k _ _ c _ => by simp⟩

theorem poss_next {t : Task} (hk : t.ok) {p0 p : Prob} (hM : Matches p0 t) (hn : p0.never = false) {l : List Int} (hS : State p0 l p) (hp : Poss t l) (hl : l.length < p.many) {c : Nat} (hc : c < 6) :
    Poss t (l ++ [(c : Int)]) ↔ (p.may.getD l.length 0).testBit c = true ∧ p.left.getD c 0 ≠ 0 := by
  have hlm : l.length < p0.many := hS.many ▸ hl
  rw [poss_snoc hp hc, hS.may _ (Nat.le_refl _) hl c hc, hM.may _ hlm c hc, hS.left c hc, hM.left]
  have hsup := hp.supply c hc
  have hsg : t.supply.getD c 0 = t.supply[c]?.getD 0 := List.getD_eq_getElem?_getD ..
  have hnev : ∀ u ∈ t.unlike, ov t u.1 ≠ ov t u.2 := fun u hu he => by
    have := hM.never.2 ⟨u, hu, he⟩
    rw [hn] at this; cases this
  constructor
  · rintro ⟨h1, h2, h3⟩
    refine ⟨⟨h2, fun j hj hb => ?_⟩, by rw [hsg]; omega⟩
    obtain ⟨u, hum, ⟨e1, e2⟩ | ⟨e1, e2⟩⟩ := (hM.unl j l.length (by omega) hlm).1 hb
    · have := (h3 u hum).2.1 e2 (by omega)
      rwa [e1] at this
    · have := (h3 u hum).1 e1 (by omega)
      rwa [e2] at this
  · rintro ⟨⟨h2, h3⟩, h1⟩
    rw [hsg] at h1
    refine ⟨by omega, h2, fun u hum => ⟨fun e1 e2 => ?_, fun e1 e2 => ?_, fun ⟨e1, e2⟩ => hnev u hum (by omega)⟩⟩
    · exact h3 _ e2 ((hM.unl _ _ (by omega) hlm).2 ⟨u, hum, .inr ⟨e1, rfl⟩⟩)
    · exact h3 _ e2 ((hM.unl _ _ (by omega) hlm).2 ⟨u, hum, .inl ⟨rfl, e1⟩⟩)

/-- The possible colours behind thread n when it gets colour c; up to thread K. -/
def mayTo (p : Prob) (n c K : Nat) : List Nat := (List.range 16).map fun k => if n < k ∧ k < K ∧ (p.unl.getD n 0).testBit k = true then clr (p.may.getD k 0) c else p.may.getD k 0
theorem mayTo_length (p : Prob) (n c K : Nat) : (mayTo p n c K).length = 16 := by simp [mayTo]
theorem mayTo_get (p : Prob) (n c K : Nat) {k : Nat} (hk : k < 16) : (mayTo p n c K).getD k 0 = if n < k ∧ k < K ∧ (p.unl.getD n 0).testBit k = true then clr (p.may.getD k 0) c else p.may.getD k 0 := by
  simp [mayTo, hk]
theorem getD_ext {l m : List Nat} (h : l.length = m.length) (hg : ∀ k, k < l.length → l.getD k 0 = m.getD k 0) : l = m := by
  refine List.ext_getElem h fun k h1 h2 => ?_
  have := hg k h1
  simpa [h1, h2] using this
theorem mayTo_start (p : Prob) (hp : p.wf) (n c : Nat) : mayTo p n c (n + 1) = p.may := by
  refine getD_ext (by rw [mayTo_length, hp.may]) fun k hk => ?_
  rw [mayTo_length] at hk
  rw [mayTo_get p n c _ hk, if_neg (by omega)]
theorem mayTo_no (p : Prob) {n c K : Nat} (hb : (p.unl.getD n 0).testBit K = false) : mayTo p n c (K + 1) = mayTo p n c K := by
  refine getD_ext (by rw [mayTo_length, mayTo_length]) fun k hk => ?_
  rw [mayTo_length] at hk
  rw [mayTo_get p n c _ hk, mayTo_get p n c _ hk]
  by_cases h : k = K
  · subst h; rw [if_neg (by simp only [hb]; simp), if_neg (by simp only [hb]; simp)]
  · have : (n < k ∧ k < K + 1 ∧ (p.unl.getD n 0).testBit k = true) ↔ (n < k ∧ k < K ∧ (p.unl.getD n 0).testBit k = true) := by
      constructor
      · rintro ⟨a, b, d⟩; exact ⟨a, by omega, d⟩
      · rintro ⟨a, b, d⟩; exact ⟨a, by omega, d⟩
    simp only [this]
theorem mayTo_yes (p : Prob) {n c K : Nat} (hn : n < K) (hK : K < 16) (hb : (p.unl.getD n 0).testBit K = true) :
    mayTo p n c (K + 1) = (mayTo p n c K).set K (clr ((mayTo p n c K).getD K 0) c) := by
  refine getD_ext (by rw [List.length_set, mayTo_length, mayTo_length]) fun k hk => ?_
  rw [mayTo_length] at hk
  by_cases h : k = K
  · subst h
    rw [mayTo_get p n c _ hk, if_pos ⟨hn, by omega, hb⟩, mayTo_get p n c k hk, if_neg (by omega)]
    simp [mayTo_length, hk]
  · have e : ((mayTo p n c K).set K (clr ((mayTo p n c K).getD K 0) c)).getD k 0 = (mayTo p n c K).getD k 0 := by
      simp [List.getElem?_set_ne (Ne.symm h)]
    rw [e, mayTo_get p n c _ hk, mayTo_get p n c _ hk]
    have : (n < k ∧ k < K + 1 ∧ (p.unl.getD n 0).testBit k = true) ↔ (n < k ∧ k < K ∧ (p.unl.getD n 0).testBit k = true) := by
      constructor
      · rintro ⟨a, b, d⟩; exact ⟨a, by omega, d⟩
      · rintro ⟨a, b, d⟩; exact ⟨a, by omega, d⟩
    simp only [this]

/-- The problem when thread n has got colour c. -/
def nextP (p : Prob) (n c : Nat) : Prob := { p with may := mayTo p n c p.many, left := p.left.set c (p.left.getD c 0 - 1) }
theorem left_set {l : List Int} {c d : Nat} (hc : c < l.length) (v : Int) : (l.set c v).getD d 0 = if d = c then v else l.getD d 0 := by
  by_cases h : d = c
  · subst h; simp [hc]
  · simp [h, List.getElem?_set_ne (Ne.symm h)]
theorem state_next {p0 p : Prob} {l : List Int} (hS : State p0 l p) (hl : l.length < p.many) {c : Nat} (hc : c < 6) (h0 : p.left.getD c 0 ≠ 0) : State p0 (l ++ [(c : Int)]) (nextP p l.length c) := by
  have hw := hS.wf
  have hm16 := hw.many
  refine ⟨⟨mayTo_length .., hw.unl, by simp [nextP, hw.left], hw.many, fun k => ?_, hw.unlB, fun k => ?_⟩, hS.many, hS.unl, hS.never, fun d hd => ?_, fun k hk1 hk2 d hd => ?_⟩
  · rcases Nat.lt_or_ge k 16 with h | h
    · simp only [nextP]
      rw [mayTo_get _ _ _ _ h]
      split
      · exact clr_lt (hw.mayB k) hc
      · exact hw.mayB k
    · rw [List.getD_eq_getElem?_getD, List.getElem?_eq_none (by simp [nextP, mayTo_length, h])]; simp
  · simp only [nextP]
    rw [left_set (by rw [hw.left]; exact hc)]
    have h1 := hw.leftB c
    have h2 := hw.leftB k
    split <;> omega
  · simp only [nextP]
    rw [left_set (by rw [hw.left]; exact hc), countC_snoc]
    have h1 := hS.left d hd
    by_cases hdc : d = c
    · subst hdc
      rw [if_pos rfl, if_pos rfl]; omega
    · rw [if_neg hdc, if_neg (by omega)]; omega
  · simp only [List.length_append, List.length_cons, List.length_nil] at hk1
    have hk16 : k < 16 := by have : k < p.many := hk2; omega
    have hkm : k < p.many := hk2
    have hold := hS.may k (by omega) hkm d hd
    simp only [nextP]
    rw [mayTo_get _ _ _ _ hk16]
    have hun : p.unl = p0.unl := hS.unl
    rw [hun]
    have hsplit : (∀ j, j < (l ++ [(c : Int)]).length → (p0.unl.getD j 0).testBit k = true → (l ++ [(c : Int)]).getD j 0 ≠ d) ↔
        (∀ j, j < l.length → (p0.unl.getD j 0).testBit k = true → l.getD j 0 ≠ d) ∧ ((p0.unl.getD l.length 0).testBit k = true → c ≠ d) := by
      constructor
      · intro h
        refine ⟨fun j hj hb => ?_, fun hb => ?_⟩
        · have := h j (by simp; omega) hb
          rwa [getD_snoc_lt hj] at this
        · have := h l.length (by simp) hb
          rw [getD_snoc_eq] at this
          exact fun e => this (by exact_mod_cast e)
      · rintro ⟨h1, h2⟩ j hj hb
        simp only [List.length_append, List.length_cons, List.length_nil] at hj
        rcases Nat.lt_or_ge j l.length with hjl | hjl
        · rw [getD_snoc_lt hjl]; exact h1 j hjl hb
        · obtain rfl : j = l.length := by omega
          rw [getD_snoc_eq]
          exact fun e => h2 hb (by exact_mod_cast e)
    rw [hsplit]
    by_cases hb : (p0.unl.getD l.length 0).testBit k = true
    · rw [if_pos ⟨by omega, hkm, hb⟩, clr_bit (hw.mayB k) hc hd]
      simp only [Bool.and_eq_true, Bool.not_eq_true', decide_eq_false_iff_not, hold, hb, forall_const]
      constructor
      · rintro ⟨⟨a, b⟩, e⟩; exact ⟨a, b, fun h => e h.symm⟩
      · rintro ⟨a, b, e⟩; exact ⟨⟨a, b⟩, fun h => e h.symm⟩
    · rw [if_neg (by rintro ⟨-, -, h⟩; exact hb h), hold]
      simp only [hb]
      simp

/-! ### What a search finds -/
theorem solveB_some {t : Task} : ∀ (m : Nat) (l r : List Int), solveB t m l = some r → ∃ e, r = l ++ e ∧ e.length = m ∧ Cols e ∧ possibleB t r = true
  | 0, l, r, h => by
    unfold solveB at h
    split at h
    · cases h; exact ⟨[], by simp, rfl, fun _ hx => (by cases hx), by assumption⟩
    · cases h
  | m + 1, l, r, h => by
    unfold solveB at h
    split at h
    · obtain ⟨c, hc, hr⟩ := List.exists_of_findSome?_eq_some h
      obtain ⟨e, rfl, he, hcol, hp⟩ := solveB_some m _ _ hr
      refine ⟨(c : Int) :: e, by simp, by simp [he], fun x hx => ?_, hp⟩
      rcases List.mem_cons.1 hx with rfl | hx
      · have : c < 6 := by simpa using hc
        omega
      · exact hcol x hx
    · cases h
theorem solveB_never {t : Task} (hk : t.ok) {u : Int × Int} (hu : u ∈ t.unlike) (he : ov t u.1 = ov t u.2) : solveB t t.cloth.threads.toNat [] = none := by
  cases h : solveB t t.cloth.threads.toNat [] with
  | none => rfl
  | some r =>
    obtain ⟨e, rfl, hl, hc, hp⟩ := solveB_some _ _ _ h
    try rw [List.nil_append] at hp
    have hP := (poss_iff hk hc).1 hp
    have hb := hk.pair u hu
    have h1 := ov_lt hk hb.1 hb.2.1
    have h2 := ov_lt hk hb.2.2.1 hb.2.2.2.1
    exact absurd (by rw [he]) (hP.pair u hu (by omega) (by omega))

/-! ### Enough -/
def inSet (s : Nat) (f : Nat → Int) : Int := (if s.testBit 0 then f 0 else 0) + (if s.testBit 1 then f 1 else 0) + (if s.testBit 2 then f 2 else 0) + (if s.testBit 3 then f 3 else 0) + (if s.testBit 4 then f 4 else 0) + (if s.testBit 5 then f 5 else 0)
/-- How many of some threads may have colours of a set alone. -/
def within (s : Nat) (may : List Nat) : Nat := (may.filter fun m => m &&& (255 - s) == 0).length
def rest (p : Prob) (n : Nat) : List Nat := (p.may.take p.many).drop n
def enoughB (p : Prob) (n : Nat) : Bool := (List.range 64).all fun s => decide ((within s (rest p n) : Int) - inSet s (fun c => p.left.getD c 0) ≤ 0)

set_option maxRecDepth 100000 in
theorem sub_tab : ∀ s, s < 64 → ∀ m, m < 64 → (m &&& (255 - s) == 0) = true → ∀ c, c < 6 → m.testBit c = true → s.testBit c = true := by decide

theorem within_le {s : Nat} (hs : s < 64) : ∀ (ms : List Nat) (e : List Int), ms.length = e.length → (∀ m ∈ ms, m < 64) → (∀ k, k < ms.length → ∃ c : Nat, c < 6 ∧ e.getD k 0 = c ∧ (ms.getD k 0).testBit c = true) →
    (within s ms : Int) ≤ inSet s (fun c => (countC e (c : Int) : Int))
  | [], [], _, _, _ => by simp [within, inSet, countC]
  | [], _ :: _, h, _, _ => by cases h
  | _ :: _, [], h, _, _ => by cases h
  | m :: ms, x :: e, h, hm, hx => by
    have ih := within_le hs ms e (by simpa using h) (fun y hy => hm y (List.mem_cons_of_mem _ hy)) (fun k hk => by
      obtain ⟨c, h1, h2, h3⟩ := hx (k + 1) (by simp; omega)
      exact ⟨c, h1, by simpa using h2, by simpa using h3⟩)
    obtain ⟨c, hc, hxc, hbc⟩ := hx 0 (by simp)
    have hxc : x = c := by simpa using hxc
    have hbc : m.testBit c = true := by simpa using hbc
    subst hxc
    have hcount : ∀ d : Nat, (countC ((c : Int) :: e) (d : Int) : Int) = countC e (d : Int) + if d = c then 1 else 0 := fun d => by
      unfold countC
      rw [List.filter_cons]
      by_cases hdc : d = c
      · subst hdc; simp
      · have : ((c : Int) == (d : Int)) = false := by simp; omega
        simp [this, hdc]
    have hstep : inSet s (fun d => (countC ((c : Int) :: e) (d : Int) : Int)) = inSet s (fun d => (countC e (d : Int) : Int)) + if s.testBit c then 1 else 0 := by
      unfold inSet
      simp only [hcount]
      have : c = 0 ∨ c = 1 ∨ c = 2 ∨ c = 3 ∨ c = 4 ∨ c = 5 := by omega
      rcases this with rfl | rfl | rfl | rfl | rfl | rfl <;> simp <;> (repeat' split) <;> omega
    rw [hstep]
    have hwc : (within s (m :: ms) : Int) = within s ms + if (m &&& (255 - s) == 0) = true then 1 else 0 := by
      unfold within
      rw [List.filter_cons]
      split <;> simp
    rw [hwc]
    by_cases hsub : (m &&& (255 - s) == 0) = true
    · rw [if_pos hsub, sub_tab s hs m (hm m (List.mem_cons_self ..)) hsub c hc hbc, if_pos rfl]; omega
    · rw [if_neg hsub]; split <;> omega

theorem inSet_le {s : Nat} {f g : Nat → Int} (h : ∀ c, c < 6 → f c ≤ g c) : inSet s f ≤ inSet s g := by
  have h0 := h 0 (by omega); have h1 := h 1 (by omega); have h2 := h 2 (by omega); have h3 := h 3 (by omega); have h4 := h 4 (by omega); have h5 := h 5 (by omega)
  unfold inSet
  (repeat' split) <;> omega

/-- Where there are not enough colours there is no arrangement. -/
theorem enough_no {t : Task} (hk : t.ok) {p0 p : Prob} (hM : Matches p0 t) {l : List Int} (hcl : Cols l) (hS : State p0 l p) (hl : l.length ≤ p.many) (h : enoughB p l.length = false) : solveB t (p.many - l.length) l = none := by
  cases hr : solveB t (p.many - l.length) l with
  | none => rfl
  | some r =>
    exfalso
    obtain ⟨e, rfl, he, hc, hp⟩ := solveB_some _ _ _ hr
    have hcols : Cols (l ++ e) := fun x hx => (List.mem_append.1 hx).elim (hcl x) (hc x)
    have hP := (poss_iff hk hcols).1 hp
    have hw := hS.wf
    have hm16 := hw.many
    unfold enoughB at h
    rw [List.all_eq_false] at h
    obtain ⟨s, hs, hb⟩ := h
    have hs : s < 64 := by simpa using hs
    have hb : ¬ ((within s (rest p l.length) : Int) - inSet s (fun c => p.left.getD c 0) ≤ 0) := by simpa using hb
    have hrl : (rest p l.length).length = e.length := by simp [rest, he, hw.may]; omega
    have hrg : ∀ k, k < e.length → (rest p l.length).getD k 0 = p.may.getD (l.length + k) 0 := fun k hk' => by
      have : l.length + k < p.many := by omega
      simp [rest, List.getElem?_take, this]
    have hwl := within_le hs (rest p l.length) e hrl (fun m hm => by
      obtain ⟨k, hk', rfl⟩ := List.getElem_of_mem hm
      have := hrg k (by omega)
      rw [List.getD_eq_getElem?_getD, List.getElem?_eq_getElem hk', Option.getD_some] at this
      rw [this]; exact hw.mayB _) (fun k hk' => by
      rw [hrl] at hk'
      have hx := cols_getD hc k
      obtain ⟨c, hcc⟩ := Int.eq_ofNat_of_zero_le hx.1
      have hc6 : c < 6 := by omega
      refine ⟨c, hc6, hcc, ?_⟩
      have hkm : l.length + k < p.many := by omega
      have hfull : ∀ j, j < e.length → (l ++ e).getD (l.length + j) 0 = e.getD j 0 := fun j hj => by
        simp [List.getElem?_append_right]
      have hlow : ∀ j, j < l.length → (l ++ e).getD j 0 = l.getD j 0 := fun j hj => by simp [List.getElem?_append_left hj]
      have hlen : (l ++ e).length = p.many := by simp; omega
      rw [hrg k hk', hS.may _ (by omega) hkm c hc6]
      have hkm0 : l.length + k < p0.many := hS.many ▸ hkm
      refine ⟨(hM.may _ hkm0 c hc6).2 fun w hwm hov => ?_, fun j hj hbit => ?_⟩
      · have := hP.wish w hwm (by omega)
        rw [hov, hfull k hk', hcc] at this
        exact this
      · obtain ⟨u, hum, ⟨e1, e2⟩ | ⟨e1, e2⟩⟩ := (hM.unl j _ (by omega) hkm0).1 hbit
        · have := hP.pair u hum (by omega) (by omega)
          rw [e1, e2, hfull k hk', hlow j hj, hcc] at this
          exact this
        · have := hP.pair u hum (by omega) (by omega)
          rw [e1, e2, hfull k hk', hlow j hj, hcc] at this
          exact fun h => this h.symm)
    have hle := inSet_le (s := s) (f := fun c => (countC e (c : Int) : Int)) (g := fun c => p.left.getD c 0) fun c hc6 => by
      have h1 := hP.supply c hc6
      rw [countC_append] at h1
      have h2 := hS.left c hc6
      have hsg : t.supply.getD c 0 = t.supply[c]?.getD 0 := List.getD_eq_getElem?_getD ..
      rw [hM.left, hsg] at h2
      show (countC e (c : Int) : Int) ≤ p.left.getD c 0
      rw [h2]
      omega
    omega
end Go.Proofs.Ytegbbkmppphddaa
