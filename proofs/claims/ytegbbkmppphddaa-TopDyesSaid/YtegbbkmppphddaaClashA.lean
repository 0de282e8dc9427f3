/- The closures of the program's Clash; an append inside a fence. -/
import Derived.Test.YtegbbkmppphddaaTz64
import Derived.Test.YtegbbkmppphddaaSolve
import Derived.Sort.LoopGhostIn
set_option linter.unusedVariables false
set_option linter.unusedSimpArgs false
namespace Go.Proofs.Ytegbbkmppphddaa
open Go.RowKit

theorem wpListIn_append_ints {F : Fence} {n : Nat} {P : Program} {w : World} {ops : Array Oper} {rest : List Oper} {o : Oper} {a : Act} {Q : Exit → Act → World → Prop} (hgd : o.guard = none) (s x : Operand) (t e : TypeId) (i : TypeInfo)
    (ho : o.op = .call { callee := .builtin .append, args := #[s, x], argTypes := #[t, t] })
    (ht : P.underlying t = some (.slice e)) (hi : P.info? e = some i) (hz : i.zero = some (.int .i64 0)) (hsize : i.size = 1) (hby : i.bytes = 8)
    (base : Nat) (v : Value) (xs : List Int) (hs : a.eval s = v) (hown : w.ownsRow base e 1 v xs.length (ints xs)) (A : Option Addr) (c : Nat) (l : List Int) (hx : a.eval x = .slice A l.length c) (hl : IntsRd w A c l)
    (hxw : ∀ x ∈ xs, I64 x) (h63 : xs.length + l.length ≤ 17592186044416) (hbase : base ≤ w.heap.size)
    (h : ∀ A' c' w', w'.ownsRow base e 1 (.slice A' (xs ++ l).length c') (xs ++ l).length (ints (xs ++ l)) → w.grownBy w' v.ownBlock → (∀ k, v.ownBlock = some k → base ≤ k) →
      IntsRd w' A' c' (xs ++ l) → wpListIn F n P ops Q rest (a.put o.dst (.slice A' (xs ++ l).length c')) w') : wpListIn F n P ops Q (o :: rest) a w :=
  wpListIn_plain hgd fun _ hK => by
    refine ⟨fun f hf => by simp [Oper.about, ho, resolve, Target.leads, go_sem] at hf, ?_⟩
    rw [Oper.semAt_eq _ _ _ (fun c hc => by rw [ho] at hc; cases hc)]
    obtain ⟨v', w', hr, h2, h3, h4, A', c', rfl, h5⟩ := run_append_ints (P := P) w t o.type e i ht hi hz hsize hby base v xs hown A c l hl hxw h63 hbase
    unfold execOp
    simp only [ho, resolve, invoke, builtin, Sem.run_bind, Sem.run_pure, Result.andThen_ok, List.map_toArray, List.map_cons, List.map_nil, hs, hx, hr]
    exact hK _ _ (h A' c' w' h2 h3 (fun k hk => (hown.lt k hk).1) h5)
theorem owns_keep {w w' : World} {base e sz n : Nat} {v : Value} {xs : List Value} (h : w.ownsRow base e sz v n xs) (hb : ∀ g, v.ownBlock = some g → w'.heap[g]? = w.heap[g]?) : w'.ownsRow base e sz v n xs := by
  obtain ⟨hl, hr⟩ := h
  refine ⟨hl, ?_⟩
  rcases hr with hr | ⟨g, cap, cur, hv, hbg, hg, rest⟩
  · exact .inl hr
  · exact .inr ⟨g, cap, cur, hv, hbg, (hb g (by rw [hv]; rfl)).trans hg, rest⟩
theorem intsRd_owns {w : World} {base e c : Nat} {A : Option Addr} {l : List Int} (h : w.ownsRow base e 1 (.slice A l.length c) l.length (ints l)) (hw : ∀ x ∈ l, I64 x) : IntsRd w A c l := by
  have h' := h
  rcases h.2 with ⟨hv, h0⟩ | ⟨g, cap, cur, hv, -⟩
  · simp only [Value.slice.injEq] at hv
    obtain ⟨rfl, -, rfl⟩ := hv
    obtain rfl := List.eq_nil_of_length_eq_zero h0
    exact IntsRd.nil_ w
  · simp only [Value.slice.injEq] at hv
    obtain ⟨rfl, -, rfl⟩ := hv
    exact IntsRd.of_owns h' hw
theorem owns_addr {w : World} {base e c n m : Nat} {A : Option Addr} {xs : List Value} (h : w.ownsRow base e 1 (.slice A m c) n xs) : ∀ g off, A = some ⟨g, off, none⟩ → base ≤ g := by
  rintro g off rfl
  rcases h.2 with ⟨hv, -⟩ | ⟨g', cap, cur, hv, hbg, -⟩
  · cases hv
  · simp only [Value.slice.injEq, Option.some.injEq, Addr.mk.injEq] at hv
    omega
theorem bits_ints {v : Nat} {dl r : List Int} (h : (bitsOf v).map (fun (i : Nat) => (i : Int)) = dl ++ r) : (∀ x ∈ dl, I64 x) ∧ dl.length ≤ 10 := by
  constructor
  · intro x hx
    have : x ∈ (bitsOf v).map (fun (i : Nat) => (i : Int)) := by rw [h]; exact List.mem_append_left _ hx
    simp only [List.mem_map, bitsOf, List.mem_filter, List.mem_range'_1] at this
    obtain ⟨i, ⟨hi, -⟩, rfl⟩ := this
    unfold I64; omega
  · have h1 := congrArg List.length h
    have h2 : (bitsOf v).length ≤ 10 := by
      unfold bitsOf
      refine Nat.le_trans (List.length_filter_le _ _) ?_
      simp
    simp at h1
    omega
theorem World.alloc_grown (w : World) (o : Obj) : w.grownBy (w.alloc o) none := grownBy_below (below_box o) none
theorem w_grown {w0 w1 w2 w3 : World} {c : Nat} {row : Option Nat} (h1 : w0.grownBy w1 (some c)) (h2 : w1.grownBy w2 none) (h3 : w2.grownBy w3 row) (hr : ∀ k, row = some k → w0.heap.size ≤ k) (hs : w0.heap.size ≤ w1.heap.size) :
    w0.grownBy w3 (some c) ∧ (∀ k, k < w1.heap.size → k < w0.heap.size → w3.heap[k]? = w1.heap[k]?) ∧ w1.heap.size ≤ w3.heap.size := by
  have hb : ∀ k, k < w1.heap.size → k < w0.heap.size → w3.heap[k]? = w1.heap[k]? := fun k hk hk0 => by
    refine (h3.block k (Nat.lt_of_lt_of_le hk h2.size) ?_).trans (h2.block k hk (by simp))
    intro e
    have := hr k e.symm
    omega
  refine ⟨⟨h3.os.trans (h2.os.trans h1.os), h3.tape.trans (h2.tape.trans h1.tape), h3.output.trans (h2.output.trans h1.output), by have := h2.size; have := h3.size; omega, fun k hk hne => ?_⟩, hb, by have := h2.size; have := h3.size; omega⟩
  exact (hb k (by omega) hk).trans (h1.block k hk hne)
theorem grown_set {w0 w1 : World} {c o : Nat} (h : w0.grownBy w1 (some c)) (v : Value) : w0.grownBy (w1.setCell ⟨c, o, none⟩ v) (some c) :=
  ⟨h.os, h.tape, h.output, by have := h.size; simpa [World.setCell] using this, fun k hk hne => (Below.heap_setCell w1 _ _ k (by simpa using hne)).trans (h.block k hk hne)⟩
end Go.Proofs.Ytegbbkmppphddaa
