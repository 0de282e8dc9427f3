/- What the walk of DyeingClashes asks beside: parts of a list, appends with a length of their own, the box of a wish. -/
import Derived.Test.YtegbbkmppphddaaDoorWishApp2
import Derived.Test.YtegbbkmppphddaaDoorSolveN
set_option linter.unusedVariables false
set_option linter.unusedSimpArgs false
namespace Go.Proofs.YtegbbkmppphddaaDoor
open Go.RowKit

theorem IntsRd.take {w : World} {b o cap : Nat} {l : List Int} (h : IntsRd w (some ⟨b, o, none⟩) cap l) (k : Nat) : IntsRd w (some ⟨b, o, none⟩) cap (l.take k) := by
  refine ⟨?_, Nat.le_trans (by simp; omega) h.len, (by intro e; cases e), h.cap, fun x hx => h.wf x (List.mem_of_mem_take hx)⟩
  rcases h.rows with hr | ⟨b', o', e, hb, hc⟩
  · left; have : l = [] := by simpa using hr
    subst this; simp
  · right
    refine ⟨b', o', e, hb, fun i r hi j v hj => hc i r ?_ j v hj⟩
    rw [List.map_take, List.getElem?_take] at hi
    split at hi
    · exact hi
    · cases hi
theorem IntsRd.drop {w : World} {b o cap : Nat} {l : List Int} (h : IntsRd w (some ⟨b, o, none⟩) cap l) (k : Nat) : IntsRd w (some ⟨b, o + k, none⟩) (cap - k) (l.drop k) := by
  refine ⟨?_, by have := h.len; simp; omega, (by intro e; cases e), Nat.le_trans (by omega) h.cap, fun x hx => h.wf x (List.mem_of_mem_drop hx)⟩
  rcases h.rows with hr | ⟨b', o', e, hb, hc⟩
  · left; have : l = [] := by simpa using hr
    subst this; simp
  · right
    cases e
    refine ⟨b, o + k, rfl, hb, fun i r hi j v hj => ?_⟩
    rw [List.map_drop, List.getElem?_drop] at hi
    have := hc (k + i) r hi j v hj
    rw [show o + k + i * 1 + j = o + (k + i) * 1 + j by omega]
    exact this
theorem IntsRd.none_left {w : World} {A : Addr} {c : Nat} (hc : c ≤ maxLen) : IntsRd w (some A) c [] := ⟨.inl rfl, by simp, (by intro e; cases e), hc, by intro x hx; cases hx⟩
theorem IntsRd.setCell {w : World} {A : Option Addr} {cap : Nat} {l : List Int} (h : IntsRd w A cap l) {p : Addr} (hp : ∀ a, A = some a → a.block ≠ p.block) (v : Value) : IntsRd (w.setCell p v) A cap l := by
  refine ⟨?_, h.len, h.nil, h.cap, h.wf⟩
  rcases h.rows with hr | ⟨b, o, e, hb, hc⟩
  · exact .inl hr
  · right
    refine ⟨b, o, e, by simpa only [World.size_setCell] using hb, fun i r hi j u hj => ?_⟩
    have hb := Below.heap_setCell w p v b (fun e2 => hp _ e e2)
    exact (World.cell?_of_block (a := ⟨b, o + i * 1 + j, none⟩) hb).trans (hc i r hi j u hj)
theorem step_append_ints2 {P : Program} {w : World} {ops : Array Oper} {o : Oper} {a : Act} {K : Act → World → Prop} {Q : Exit → Act → World → Prop} {E : Prop} (hgd : o.guard = none) (s x : Operand) (t e : TypeId) (i : TypeInfo)
    (ho : o.op = .call { callee := .builtin .append, args := #[s, x], argTypes := #[t, t] })
    (ht : P.underlying t = some (.slice e)) (hi : P.info? e = some i) (hz : i.zero = some (.int .i64 0)) (hsize : i.size = 1) (hby : i.bytes = 8)
    (base : Nat) (v : Value) (xs : List Int) (hs : a.eval s = v) (hown : w.ownsRow base e 1 v xs.length (ints xs)) (A : Option Addr) (c n : Nat) (l : List Int) (hx : a.eval x = .slice A n c) (hn : n = l.length) (hl : IntsRd w A c l)
    (hxw : ∀ x ∈ xs, I64 x) (h63 : xs.length + l.length ≤ 17592186044416) (hbase : base ≤ w.heap.size)
    (h : ∀ L A' c' w', L = xs ++ l → w'.ownsRow base e 1 (.slice A' L.length c') L.length (ints L) → w.grownBy w' v.ownBlock → (∀ k, v.ownBlock = some k → base ≤ k) → IntsRd w' A' c' L → K (a.put o.dst (.slice A' L.length c')) w') :
    if Region.wanted o (yielded ops a.tmps) = true then Oper.wp P o a w K Q else E := by
  subst hn
  exact step_append_ints hgd s x t e i ho ht hi hz hsize hby base v xs hs hown A c l hx hl hxw h63 hbase (fun A' c' w' h1 h2 h3 _ h5 => h _ A' c' w' rfl h1 h2 h3 h5)
theorem with_any2 {w : World} {cA : Option Addr} {cc : Nat} {pA : Option Addr} {pc : Nat} {wA : Option Addr} {wc : Nat} {uA : Option Addr} {uc : Nat} {t : Task} (h : TaskRd w cA cc pA pc wA wc uA uc t)
    {lA : Option Addr} {lc : Nat} {L : List Int} {l : List Nat} (hL : L = natInts l) (hl : IntsRd w lA lc L) (hlt : ∀ i ∈ l, i < t.wishes.length) (h100 : l.length ≤ 100) :
    Calls Tryd.prog 18 #[taskVal cA cc pA pc wA wc uA uc t, .slice lA L.length lc] w (WithPost cA cc pA pc uA uc (withT t l) w) := by
  subst hL
  have := with_any h hl hlt h100
  rwa [natInts_length]
theorem natInts_erase (c : List Nat) (j : Nat) : ([] ++ (natInts c).take j) ++ (natInts c).drop (j + 1) = natInts (c.eraseIdx j) := by
  rw [List.nil_append]
  unfold natInts
  rw [← List.map_take, ← List.map_drop, ← List.map_append, List.eraseIdx_eq_take_drop_succ]
structure WishBox (w : World) (B : Nat) (x : Wish) : Prop where
  lt : B < w.heap.size
  z0 : w.cell? ⟨B, 0, none⟩ = some (.int .i64 x.cross)
  z1 : w.cell? ⟨B, 1, none⟩ = some (.int .u8 (x.allowed : Nat))
theorem WishBox.below {w w' : World} {B : Nat} {x : Wish} (h : WishBox w B x) (hb : Below w.heap.size w w') : WishBox w' B x :=
  ⟨Nat.lt_of_lt_of_le h.lt hb.size, (hb.cell (p := ⟨B, 0, none⟩) h.lt).trans h.z0, (hb.cell (p := ⟨B, 1, none⟩) h.lt).trans h.z1⟩
theorem wish_wf_snoc2 {t : Task} (h : t.wf) {x : Wish} (hx : x.wf) : ∀ y ∈ ([] ++ t.wishes) ++ [x], y.wf := by
  intro y hy
  simp only [List.nil_append, List.mem_append, List.mem_singleton] at hy
  rcases hy with hy | rfl
  · exact h.wishes y hy
  · exact hx
theorem clash_get {n : Nat} {c : List Nat} (hp : c.Pairwise (· < ·)) {j : Nat} (hj : j < c.length) (h0 : 0 < j) : c[j - 1]'(by omega) < c[j] := List.pairwise_iff_getElem.1 hp (j - 1) j (by omega) hj (by omega)
end Go.Proofs.YtegbbkmppphddaaDoor
