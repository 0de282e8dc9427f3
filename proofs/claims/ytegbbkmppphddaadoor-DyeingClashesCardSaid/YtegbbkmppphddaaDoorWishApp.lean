/- Wishes that are appended. -/
import Derived.Test.YtegbbkmppphddaaDoorRefClash
import Derived.Test.YtegbbkmppphddaaDoorMkMem
set_option linter.unusedVariables false
set_option linter.unusedSimpArgs false
namespace Go.Proofs.YtegbbkmppphddaaDoor
open Go.RowKit

theorem flat_inv {α : Type} (f : α → List Value) (sz : Nat) (hf : ∀ x, (f x).length = sz) : ∀ (l : List α) (j : Nat) (u : Value), (l.flatMap f)[j]? = some u → ∃ i r k, (l.map f)[i]? = some r ∧ r[k]? = some u ∧ j = i * sz + k
  | [], j, u, h => by simp at h
  | a :: l, j, u, h => by
    rw [List.flatMap_cons] at h
    by_cases hj : j < sz
    · rw [List.getElem?_append_left (by rw [hf]; exact hj)] at h
      exact ⟨0, f a, j, rfl, h, by omega⟩
    · rw [List.getElem?_append_right (by rw [hf]; omega), hf] at h
      obtain ⟨i, r, k, h1, h2, h3⟩ := flat_inv f sz hf l (j - sz) u h
      exact ⟨i + 1, r, k, by simpa using h1, h2, by rw [Nat.add_mul]; omega⟩
theorem wishCells_flat (l : List Wish) : wishCells l = l.flatMap Wish.cells := rfl
theorem wish_news {w : World} {ad : Addr} {l : List Wish} (h : Rows w (some ad) 2 (l.map Wish.cells)) : ∀ j u, (wishCells l)[j]? = some u → w.cell? (ad.add j) = some u := by
  intro j u hu
  rcases h with h | ⟨b, off, e, hlt, hc⟩
  · have : l = [] := by simpa using h
    subst this; simp [wishCells] at hu
  · obtain ⟨i, r, k, h1, h2, h3⟩ := flat_inv Wish.cells 2 (fun _ => rfl) l j u hu
    have := hc i r h1 k u h2
    cases e
    rw [show (⟨b, off, none⟩ : Addr).add j = ⟨b, off + i * 2 + k, none⟩ by
      unfold Addr.add
      split
      · rename_i hz; rw [show off + i * 2 + k = off by omega]
      · rw [show off + j = off + i * 2 + k by omega]]
    exact this
theorem wishes_ones (l : List Wish) : ∀ u ∈ wishCells l, u.oneCell' = true := by
  intro u hu
  rw [wishCells_flat, List.mem_flatMap] at hu
  obtain ⟨x, -, hx⟩ := hu
  exact wish_ones x u hx
theorem wishes_length (l : List Wish) : (wishCells l).length = l.length * 2 := flat_length Wish.cells 2 (fun _ => rfl) l
theorem run_append_wishes {P : Program} (w : World) (t ty e : TypeId) (i : TypeInfo) (ht : P.underlying t = some (.slice e)) (hi : P.info? e = some i) (hz : i.zero = some (.agg #[.int .i64 0, .int .u8 0])) (hsize : i.size = 2) (hby : i.bytes = 16)
    (base : Nat) (v : Value) (xs : List Wish) (hown : w.ownsRow base e 2 v xs.length (wishCells xs)) (A : Option Addr) (c : Nat) (l : List Wish) (hl : Rows w A 2 (l.map Wish.cells)) (hnil : A = none → c = 0)
    (h63 : xs.length + l.length ≤ 1000000) (hbase : base ≤ w.heap.size) :
    ∃ v' w', (Builtin.append_ #[t, t] ty #[v, .slice A l.length c]).run P w = .ok v' w' ∧ w'.ownsRow base e 2 v' (xs ++ l).length (wishCells (xs ++ l)) ∧ w.grownBy w' v.ownBlock ∧
      (v'.ownBlock = v.ownBlock ∨ v'.ownBlock = some w.heap.size) ∧ (∃ A' c', v' = .slice A' (xs ++ l).length c') := by
  have fin : ∀ (v' : Value) (w' : World), w'.ownsRow base e 2 v' (xs ++ l).length (wishCells (xs ++ l)) → ∃ A' c', v' = .slice A' (xs ++ l).length c' := by
    intro v' w' h
    rcases h.2 with ⟨rfl, h0⟩ | ⟨g, cap, cur, rfl, hr⟩
    · exact ⟨none, 0, by rw [h0]⟩
    · exact ⟨_, _, rfl⟩
  cases A with
  | none =>
    have hl0 : l = [] := by
      rcases hl with h | ⟨b, off, hA, _⟩
      · simpa using h
      · cases hA
    subst hl0
    obtain rfl := hnil rfl
    refine ⟨v, w, run_append_owned_none w base t ty e i 2 ht hi v _ _ hown, by simpa using hown, ⟨rfl, rfl, rfl, Nat.le_refl _, fun _ _ _ => rfl⟩, .inl rfl, fin v w (by simpa using hown)⟩
  | some ad =>
    obtain ⟨v', w', hr, h2, h3, _, h5⟩ := run_append_own_at (P := P) w base t ty e i (.agg #[.int .i64 0, .int .u8 0]) 2 16 ht hi hz hsize hby rfl (by omega) v _ _ hown ad l.length c (wishCells l) (wishes_length l) (wish_news hl) (wishes_ones l)
      (by unfold maxLen; omega) (by omega) hbase
    rw [← wishCells_append] at h2
    rw [← List.length_append] at h2
    exact ⟨v', w', hr, h2, h3, h5, fin v' w' h2⟩
theorem step_append_wishes {P : Program} {w : World} {ops : Array Oper} {o : Oper} {a : Act} {K : Act → World → Prop} {Q : Exit → Act → World → Prop} {E : Prop} (hgd : o.guard = none) (s x : Operand) (t e : TypeId) (i : TypeInfo)
    (ho : o.op = .call { callee := .builtin .append, args := #[s, x], argTypes := #[t, t] })
    (ht : P.underlying t = some (.slice e)) (hi : P.info? e = some i) (hz : i.zero = some (.agg #[.int .i64 0, .int .u8 0])) (hsize : i.size = 2) (hby : i.bytes = 16)
    (base : Nat) (v : Value) (xs : List Wish) (hs : a.eval s = v) (hown : w.ownsRow base e 2 v xs.length (wishCells xs)) (A : Option Addr) (c : Nat) (l : List Wish) (hx : a.eval x = .slice A l.length c) (hl : Rows w A 2 (l.map Wish.cells)) (hnil : A = none → c = 0)
    (h63 : xs.length + l.length ≤ 1000000) (hbase : base ≤ w.heap.size)
    (h : ∀ A' c' w', w'.ownsRow base e 2 (.slice A' (xs ++ l).length c') (xs ++ l).length (wishCells (xs ++ l)) → w.grownBy w' v.ownBlock → (∀ k, v.ownBlock = some k → base ≤ k) → K (a.put o.dst (.slice A' (xs ++ l).length c')) w') :
    if Region.wanted o (yielded ops a.tmps) = true then Oper.wp P o a w K Q else E := by
  have hw : Region.wanted o (yielded ops a.tmps) = true := by simp [Region.wanted, hgd]
  rw [if_pos hw]
  obtain ⟨v', w', hr, h2, h3, h4, A', c', rfl⟩ := run_append_wishes (P := P) w t o.type e i ht hi hz hsize hby base v xs hown A c l hl hnil h63 hbase
  unfold Oper.wp execOp
  simp only [ho, resolve, invoke, builtin, Sem.run_bind, Sem.run_pure, Result.andThen_ok, List.map_toArray, List.map_cons, List.map_nil, hs, hx, hr]
  exact h A' c' w' h2 h3 (fun k hk => (hown.lt k hk).1)
theorem own_lit_wish {base e H : Nat} (W : World) (h : base ≤ W.heap.size) (hH : H = W.heap.size) : (W.alloc (.cells #[] e)).ownsRow base e 2 (.slice (some ⟨H, 0, none⟩) 0 0) ([] : List Wish).length (wishCells []) := by
  subst hH
  exact World.ownsRow_lit W #[] 0 h (by unfold maxLen; omega) rfl
end Go.Proofs.YtegbbkmppphddaaDoor
