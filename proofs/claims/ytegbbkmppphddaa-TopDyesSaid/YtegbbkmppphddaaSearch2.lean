/- The program's search: one step of it. -/
import Derived.Test.YtegbbkmppphddaaSearch
import Derived.Test.YtegbbkmppphddaaRefA
import Derived.OwnWalk
import Derived.Deep.MidRow
set_option linter.unusedVariables false
set_option linter.unusedSimpArgs false
namespace Go.Proofs.Ytegbbkmppphddaa
open Go.RowKit

/-- A copy of what each thread may have. -/
def WasAt (w : World) (W : Nat) (may : List Nat) : Prop := w.heap[W]? = some (.cells (u8s may).toArray 86 (0, 0)) ∧ may.length = 16
theorem WasAt.cell {w : World} {W : Nat} {may : List Nat} (h : WasAt w W may) {k : Nat} (hk : k < 16) : w.cell? ⟨W, k, none⟩ = some (.int .u8 (may.getD k 0 : Nat)) := by
  rw [cell_of_row w W k _ _ _ h.1, List.getElem?_toArray, u8s, List.getElem?_map, getD_some (by rw [h.2]; exact hk) 0]
  rfl
theorem WasAt.of_block {w w' : World} {W : Nat} {may : List Nat} (h : WasAt w W may) (e : w'.heap[W]? = w.heap[W]?) : WasAt w' W may := ⟨e.trans h.1, h.2⟩
theorem was_zero (w : World) : WasAt (w.alloc (.cells #[.int .u8 0, .int .u8 0, .int .u8 0, .int .u8 0, .int .u8 0, .int .u8 0, .int .u8 0, .int .u8 0, .int .u8 0, .int .u8 0, .int .u8 0, .int .u8 0, .int .u8 0, .int .u8 0, .int .u8 0, .int .u8 0] 86)) w.heap.size (List.replicate 16 0) := ⟨heap_alloc_new w _, rfl⟩
theorem was_there (w : World) {n : Nat} (hn : n = 16) : (w.alloc (.cells #[.int .u8 0, .int .u8 0, .int .u8 0, .int .u8 0, .int .u8 0, .int .u8 0, .int .u8 0, .int .u8 0, .int .u8 0, .int .u8 0, .int .u8 0, .int .u8 0, .int .u8 0, .int .u8 0, .int .u8 0, .int .u8 0] 86)).there w.heap.size 0 n := fun j hj => by
  rw [Nat.zero_add]
  exact ⟨by rw [(was_zero w).cell (by omega)]; rfl, frozen_of_row _ _ _ _ _ (was_zero w).1⟩
theorem was_stored (w W2 : World) (may : List Nat) (hm : may.length = 16) (h : (w.alloc (.cells #[.int .u8 0, .int .u8 0, .int .u8 0, .int .u8 0, .int .u8 0, .int .u8 0, .int .u8 0, .int .u8 0, .int .u8 0, .int .u8 0, .int .u8 0, .int .u8 0, .int .u8 0, .int .u8 0, .int .u8 0, .int .u8 0] 86)).setCells w.heap.size 0 (u8s may).toArray.toList = W2) :
    WasAt W2 w.heap.size may ∧ Below w.heap.size w W2 ∧ W2.heap.size = w.heap.size + 1 := by
  subst h
  refine ⟨⟨?_, hm⟩, below_setCells (below_box _) (Nat.le_refl _) 0 _, by rw [setCells_size]; simp⟩
  rw [setCells_whole _ _ _ _ _ (was_zero w).1 (by simp [u8s, hm])]
  simp [u8s, hm]
theorem u8s_size {may : List Nat} (hm : may.length = 16) : (Try.prog.info? 86).map (·.size) = some (u8s may).toArray.size := by rw [info_u8s]; simp [u8s, hm]
theorem u8s_len {may : List Nat} (hm : may.length = 16) : (Try.prog.info? 86).map (·.size) = some (u8s may).length := by rw [info_u8s]; simp [u8s, hm]

theorem rel_next {X M c : Nat} {P : Nat → Prop} (hsub : ∀ d, d < 6 → X.testBit d = true → M.testBit d = true) (hdone : ∀ d : Nat, d < 6 → M.testBit d = true → X.testBit d = false → P d)
    (hz : X.testBit c = true ∧ ∀ d, d < 6 → (X &&& (X - 1)).testBit d = (X.testBit d && decide (c < d)) ∧ (d < c → X.testBit d = false)) (hc : P c) :
    (∀ d, d < 6 → (X &&& (X - 1)).testBit d = true → M.testBit d = true) ∧ (∀ d : Nat, d < 6 → M.testBit d = true → (X &&& (X - 1)).testBit d = false → P d) := by
  refine ⟨fun d hd h => ?_, fun d hd h1 h2 => ?_⟩
  · rw [(hz.2 d hd).1] at h
    simp only [Bool.and_eq_true] at h
    exact hsub d hd h.1
  · rw [(hz.2 d hd).1] at h2
    by_cases hx : X.testBit d = true
    · rw [hx] at h2
      have hcd : ¬ c < d := by simpa using h2
      by_cases e : d = c
      · rw [e]; exact hc
      · rw [(hz.2 d hd).2 (by omega)] at hx; cases hx
    · exact hdone d hd h1 (by simpa using hx)
theorem and_pred {X : Nat} (h0 : X ≠ 0) (h : X < 64) : bits .and .u8 (X : Int) ((X : Int) - 1) = ((X &&& (X - 1) : Nat) : Int) := by
  have := u8_and_nat X (X - 1) (by omega) (by omega)
  rwa [show ((X - 1 : Nat) : Int) = (X : Int) - 1 by omega] at this
theorem and_pred_lt {X : Nat} (h0 : X ≠ 0) : X &&& (X - 1) < X := by
  have : X &&& (X - 1) ≤ X - 1 := Nat.and_le_right
  omega
theorem andNot_clr {v c : Nat} (hv : v < 64) (hc : c < 6) : bits .andNot .u8 (v : Int) ((2 : Int) ^ c % 256) = ((clr v c : Nat) : Int) := by
  have h2 : (2 : Int) ^ c % 256 = ((2 ^ c : Nat) : Int) := by
    have : c = 0 ∨ c = 1 ∨ c = 2 ∨ c = 3 ∨ c = 4 ∨ c = 5 := by omega
    rcases this with rfl | rfl | rfl | rfl | rfl | rfl <;> rfl
  have h3 : 2 ^ c < 256 := by
    have : c = 0 ∨ c = 1 ∨ c = 2 ∨ c = 3 ∨ c = 4 ∨ c = 5 := by omega
    rcases this with rfl | rfl | rfl | rfl | rfl | rfl <;> decide
  rw [h2]
  exact u8_andNot_nat v (2 ^ c) (by omega) h3
/-- The reference finds nothing where a colour is not possible. -/
theorem solveB_imposs {t : Task} (hk : t.ok) {l : List Int} (hC : Cols l) {c : Nat} (hc : c < 6) (m : Nat) (h : ¬ Poss t (l ++ [(c : Int)])) : solveB t m (l ++ [(c : Int)]) = none := by
  refine solveB_no m ?_
  rw [Bool.eq_false_iff]
  exact fun hp => h ((poss_iff hk (cols_snoc hC hc)).1 hp)

theorem lit_one (w : World) (v : Value) (ty : TypeId) : ∀ j u, ([v] : List Value)[j]? = some u → (w.alloc (.cells #[v] ty)).cell? ((⟨w.heap.size, 0, none⟩ : Addr).add j) = some u := by
  intro j u h
  have hj : j = 0 := by have := (List.getElem?_eq_some_iff.1 h).1; simpa using this
  subst hj
  have : v = u := by simpa using h
  subst this
  simp [Addr.add]
theorem ownsRow_take {w : World} {R cap : Nat} {e : TypeId} {l : List Int} {c : Int} (h : w.ownsRow R e 1 (.slice (some ⟨R, 0, none⟩) (l ++ [c]).length cap) (l ++ [c]).length (ints (l ++ [c]))) :
    w.ownsRow R e 1 (.slice (some ⟨R, 0, none⟩) l.length cap) l.length (ints l) := by
  obtain ⟨_, hr⟩ := h
  refine ⟨by simp [ints], ?_⟩
  rcases hr with ⟨hr, h0⟩ | ⟨g, cap', cur, hv, hb, hg, h1, h2, h3, h4⟩
  · simp at h0
  · simp only [Value.slice.injEq, Option.some.injEq, Addr.mk.injEq] at hv
    obtain ⟨⟨rfl, -⟩, -, rfl⟩ := hv
    refine .inr ⟨_, _, cur, rfl, hb, hg, by simp at h1; omega, h2, h3, ?_⟩
    have := congrArg (List.take l.length) h4
    rw [List.take_take] at this
    rw [Nat.mul_one]
    rw [show min l.length ((l ++ [c]).length * 1) = l.length by first | (simp; done) | (simp; omega)] at this
    rw [this]
    simp [ints]

theorem owns_block {w w' : World} {R n cap : Nat} {e : TypeId} {xs : List Value} (h : w.ownsRow R e 1 (.slice (some ⟨R, 0, none⟩) n cap) n xs) (e2 : w'.heap[R]? = w.heap[R]?) : w'.ownsRow R e 1 (.slice (some ⟨R, 0, none⟩) n cap) n xs := by
  obtain ⟨hl, hr⟩ := h
  refine ⟨hl, ?_⟩
  rcases hr with hr | ⟨g, cap', cur, hv, hb, hg, rest⟩
  · exact .inl hr
  · have : g = R := by simp only [Value.slice.injEq, Option.some.injEq, Addr.mk.injEq] at hv; exact hv.1.1.symm
    exact .inr ⟨g, cap', cur, hv, hb, by rw [this]; rw [this] at hg; exact e2.trans hg, rest⟩
theorem search_push {w : World} {O R PB FB b : Nat} (hA : Apart O R PB FB b) {l : List Int} {p : Prob} {c : Nat} (hc : c < 6)
    (hown : w.ownsRow R 3 1 (.slice (some ⟨R, 0, none⟩) (l.length + 1) p.many) (l.length + 1) (ints l ++ [.int .i64 (c : Int)]))
    {v0 : Value} (o5 : w.cell? ⟨O, 0, none⟩ = some v0) (f5 : w.frozen? ⟨O, 0, none⟩ = false) (p5 : w.cell? ⟨PB, 0, none⟩ = some (.pointer (some ⟨b, 0, none⟩)))
    (g5 : w.cell? ⟨FB, 0, none⟩ = some (.func (.func 38) #[] #[.pointer (some ⟨O, 0, none⟩), .pointer (some ⟨PB, 0, none⟩), .pointer (some ⟨FB, 0, none⟩)]))
    (pr5 : ProbAt w b { p with may := mayTo p l.length c p.many }) :
    SearchAt ((w.setCell ⟨O, 0, none⟩ (.slice (some ⟨R, 0, none⟩) (l.length + 1) p.many)).setCell ⟨b, 32 + c, none⟩ (.int .i64 (p.left.getD c 0 - 1))) O R PB FB b (l ++ [(c : Int)]) (nextP p l.length c) := by
  have k1 : ∀ k, k ≠ O → k ≠ b → ((w.setCell ⟨O, 0, none⟩ (.slice (some ⟨R, 0, none⟩) (l.length + 1) p.many)).setCell ⟨b, 32 + c, none⟩ (.int .i64 (p.left.getD c 0 - 1))).heap[k]? = w.heap[k]? := fun k h1 h2 =>
    (Below.heap_setCell _ _ _ _ (by simpa using h2)).trans (Below.heap_setCell _ _ _ _ (by simpa using h1))
  have eO : ((w.setCell ⟨O, 0, none⟩ (.slice (some ⟨R, 0, none⟩) (l.length + 1) p.many)).setCell ⟨b, 32 + c, none⟩ (.int .i64 (p.left.getD c 0 - 1))).heap[O]? = (w.setCell ⟨O, 0, none⟩ (.slice (some ⟨R, 0, none⟩) (l.length + 1) p.many)).heap[O]? :=
    Below.heap_setCell _ _ _ _ (by simpa using hA.ob)
  refine ⟨?_, ?_, ?_, (World.cell?_of_block (a := ⟨PB, 0, none⟩) (k1 PB (Ne.symm hA.op) hA.pb)).trans p5, (World.cell?_of_block (a := ⟨FB, 0, none⟩) (k1 FB (Ne.symm hA.of) hA.fb)).trans g5, ?_⟩
  · refine (World.cell?_of_block (a := ⟨O, 0, none⟩) eO).trans ?_
    rw [World.cell?_setCell_same' _ _ _ (by rw [o5]; rfl)]
    simp [nextP]
  · exact (World.frozen?_of_block (a := ⟨O, 0, none⟩) eO).trans (by simp [f5])
  · have h2 := owns_block hown (k1 R (Ne.symm hA.or) hA.rb)
    rw [show ints l ++ [Value.int .i64 (c : Int)] = ints (l ++ [(c : Int)]) by simp [ints]] at h2
    simpa [nextP] using h2
  · have hp1 : ProbAt (w.setCell ⟨O, 0, none⟩ (.slice (some ⟨R, 0, none⟩) (l.length + 1) p.many)) b { p with may := mayTo p l.length c p.many } := pr5.of_block (Below.heap_setCell _ _ _ _ (by simpa using Ne.symm hA.ob))
    exact hp1.setLeft hc (p.left.getD c 0 - 1)

theorem u8s_list {may : List Nat} (hm : may.length = 16) {mf : Nat → Nat} (hmf : ∀ k, mf k = may.getD k 0) : u8s may = [.int .u8 (mf 0 : Nat), .int .u8 (mf 1 : Nat), .int .u8 (mf 2 : Nat), .int .u8 (mf 3 : Nat), .int .u8 (mf 4 : Nat), .int .u8 (mf 5 : Nat), .int .u8 (mf 6 : Nat), .int .u8 (mf 7 : Nat), .int .u8 (mf 8 : Nat), .int .u8 (mf 9 : Nat), .int .u8 (mf 10 : Nat), .int .u8 (mf 11 : Nat), .int .u8 (mf 12 : Nat), .int .u8 (mf 13 : Nat), .int .u8 (mf 14 : Nat), .int .u8 (mf 15 : Nat)] := by
  refine List.ext_getElem (by simp [u8s, hm]) fun k h1 h2 => ?_
  have hk : k < may.length := by simpa [u8s] using h1
  have hg : may[k] = mf k := by rw [hmf]; simp [hk]
  have hk16 : k < 16 := by omega
  have hc : k = 0 ∨ k = 1 ∨ k = 2 ∨ k = 3 ∨ k = 4 ∨ k = 5 ∨ k = 6 ∨ k = 7 ∨ k = 8 ∨ k = 9 ∨ k = 10 ∨ k = 11 ∨ k = 12 ∨ k = 13 ∨ k = 14 ∨ k = 15 := by omega
  rw [show (u8s may)[k] = .int .u8 (mf k : Nat) by simp [u8s, hg]]
  rcases hc with rfl | rfl | rfl | rfl | rfl | rfl | rfl | rfl | rfl | rfl | rfl | rfl | rfl | rfl | rfl | rfl <;> rfl
theorem prob_back (p : Prob) {c : Nat} (hc : c < p.left.length) (x : Int) : ({ ({ p with left := p.left.set c x } : Prob) with left := (p.left.set c x).set c (p.left.getD c 0) } : Prob) = p := by
  have : (p.left.set c x).set c (p.left.getD c 0) = p.left := by
    rw [List.set_set]
    refine List.ext_getElem (by simp) fun k h1 h2 => ?_
    by_cases e : k = c
    · subst e; simp [hc]
    · simp [List.getElem_set_ne (Ne.symm e)]
  show ({ p with left := (p.left.set c x).set c (p.left.getD c 0) } : Prob) = p
  rw [this]
theorem search_pop {w : World} {O R PB FB b : Nat} (hA : Apart O R PB FB b) {l : List Int} {p : Prob} {c : Nat} (hm : p.may.length = 16) (hleft : p.left.length = 6) {mf : Nat → Nat} (hmf : ∀ k, mf k = p.may.getD k 0)
    (h : SearchAt w O R PB FB b (l ++ [(c : Int)]) (nextP p l.length c)) :
    SearchAt (((((((((((((((((w.setCell ⟨O, 0, none⟩ (.slice (some ⟨R, 0, none⟩) l.length p.many)).setCell ⟨b, 0, none⟩ (.int .u8 (mf 0 : Nat))).setCell ⟨b, 1, none⟩ (.int .u8 (mf 1 : Nat))).setCell ⟨b, 2, none⟩ (.int .u8 (mf 2 : Nat))).setCell ⟨b, 3, none⟩ (.int .u8 (mf 3 : Nat))).setCell ⟨b, 4, none⟩ (.int .u8 (mf 4 : Nat))).setCell ⟨b, 5, none⟩ (.int .u8 (mf 5 : Nat))).setCell ⟨b, 6, none⟩ (.int .u8 (mf 6 : Nat))).setCell ⟨b, 7, none⟩ (.int .u8 (mf 7 : Nat))).setCell ⟨b, 8, none⟩ (.int .u8 (mf 8 : Nat))).setCell ⟨b, 9, none⟩ (.int .u8 (mf 9 : Nat))).setCell ⟨b, 10, none⟩ (.int .u8 (mf 10 : Nat))).setCell ⟨b, 11, none⟩ (.int .u8 (mf 11 : Nat))).setCell ⟨b, 12, none⟩ (.int .u8 (mf 12 : Nat))).setCell ⟨b, 13, none⟩ (.int .u8 (mf 13 : Nat))).setCell ⟨b, 14, none⟩ (.int .u8 (mf 14 : Nat))).setCell ⟨b, 15, none⟩ (.int .u8 (mf 15 : Nat))) O R PB FB b l { p with left := p.left.set c (p.left.getD c 0 - 1) } ∧ Kept3 O R b w (((((((((((((((((w.setCell ⟨O, 0, none⟩ (.slice (some ⟨R, 0, none⟩) l.length p.many)).setCell ⟨b, 0, none⟩ (.int .u8 (mf 0 : Nat))).setCell ⟨b, 1, none⟩ (.int .u8 (mf 1 : Nat))).setCell ⟨b, 2, none⟩ (.int .u8 (mf 2 : Nat))).setCell ⟨b, 3, none⟩ (.int .u8 (mf 3 : Nat))).setCell ⟨b, 4, none⟩ (.int .u8 (mf 4 : Nat))).setCell ⟨b, 5, none⟩ (.int .u8 (mf 5 : Nat))).setCell ⟨b, 6, none⟩ (.int .u8 (mf 6 : Nat))).setCell ⟨b, 7, none⟩ (.int .u8 (mf 7 : Nat))).setCell ⟨b, 8, none⟩ (.int .u8 (mf 8 : Nat))).setCell ⟨b, 9, none⟩ (.int .u8 (mf 9 : Nat))).setCell ⟨b, 10, none⟩ (.int .u8 (mf 10 : Nat))).setCell ⟨b, 11, none⟩ (.int .u8 (mf 11 : Nat))).setCell ⟨b, 12, none⟩ (.int .u8 (mf 12 : Nat))).setCell ⟨b, 13, none⟩ (.int .u8 (mf 13 : Nat))).setCell ⟨b, 14, none⟩ (.int .u8 (mf 14 : Nat))).setCell ⟨b, 15, none⟩ (.int .u8 (mf 15 : Nat))) := by
  refine ⟨?_, ((((((((((((((((((Kept3.refl O R b w).set (a := ⟨O, 0, none⟩) (.inl rfl) _).set (a := ⟨b, 0, none⟩) (.inr (.inr rfl)) _).set (a := ⟨b, 1, none⟩) (.inr (.inr rfl)) _).set (a := ⟨b, 2, none⟩) (.inr (.inr rfl)) _).set (a := ⟨b, 3, none⟩) (.inr (.inr rfl)) _).set (a := ⟨b, 4, none⟩) (.inr (.inr rfl)) _).set (a := ⟨b, 5, none⟩) (.inr (.inr rfl)) _).set (a := ⟨b, 6, none⟩) (.inr (.inr rfl)) _).set (a := ⟨b, 7, none⟩) (.inr (.inr rfl)) _).set (a := ⟨b, 8, none⟩) (.inr (.inr rfl)) _).set (a := ⟨b, 9, none⟩) (.inr (.inr rfl)) _).set (a := ⟨b, 10, none⟩) (.inr (.inr rfl)) _).set (a := ⟨b, 11, none⟩) (.inr (.inr rfl)) _).set (a := ⟨b, 12, none⟩) (.inr (.inr rfl)) _).set (a := ⟨b, 13, none⟩) (.inr (.inr rfl)) _).set (a := ⟨b, 14, none⟩) (.inr (.inr rfl)) _).set (a := ⟨b, 15, none⟩) (.inr (.inr rfl)) _)⟩
  have e : (((((((((((((((((w.setCell ⟨O, 0, none⟩ (.slice (some ⟨R, 0, none⟩) l.length p.many)).setCell ⟨b, 0, none⟩ (.int .u8 (mf 0 : Nat))).setCell ⟨b, 1, none⟩ (.int .u8 (mf 1 : Nat))).setCell ⟨b, 2, none⟩ (.int .u8 (mf 2 : Nat))).setCell ⟨b, 3, none⟩ (.int .u8 (mf 3 : Nat))).setCell ⟨b, 4, none⟩ (.int .u8 (mf 4 : Nat))).setCell ⟨b, 5, none⟩ (.int .u8 (mf 5 : Nat))).setCell ⟨b, 6, none⟩ (.int .u8 (mf 6 : Nat))).setCell ⟨b, 7, none⟩ (.int .u8 (mf 7 : Nat))).setCell ⟨b, 8, none⟩ (.int .u8 (mf 8 : Nat))).setCell ⟨b, 9, none⟩ (.int .u8 (mf 9 : Nat))).setCell ⟨b, 10, none⟩ (.int .u8 (mf 10 : Nat))).setCell ⟨b, 11, none⟩ (.int .u8 (mf 11 : Nat))).setCell ⟨b, 12, none⟩ (.int .u8 (mf 12 : Nat))).setCell ⟨b, 13, none⟩ (.int .u8 (mf 13 : Nat))).setCell ⟨b, 14, none⟩ (.int .u8 (mf 14 : Nat))).setCell ⟨b, 15, none⟩ (.int .u8 (mf 15 : Nat))) = (w.setCell ⟨O, 0, none⟩ (.slice (some ⟨R, 0, none⟩) l.length p.many)).setCells b 0 (u8s p.may) := by rw [u8s_list hm hmf]; rfl
  rw [e]
  have k1 : ∀ k, k ≠ O → k ≠ b → ((w.setCell ⟨O, 0, none⟩ (.slice (some ⟨R, 0, none⟩) l.length p.many)).setCells b 0 (u8s p.may)).heap[k]? = w.heap[k]? := fun k h1 h2 =>
    (setCells_other _ _ _ _ _ h2).trans (Below.heap_setCell _ _ _ _ (by simpa using h1))
  have eO : ((w.setCell ⟨O, 0, none⟩ (.slice (some ⟨R, 0, none⟩) l.length p.many)).setCells b 0 (u8s p.may)).heap[O]? = (w.setCell ⟨O, 0, none⟩ (.slice (some ⟨R, 0, none⟩) l.length p.many)).heap[O]? :=
    setCells_other _ _ _ _ _ hA.ob
  refine ⟨?_, ?_, ?_, (World.cell?_of_block (a := ⟨PB, 0, none⟩) (k1 PB (Ne.symm hA.op) hA.pb)).trans h.pb, (World.cell?_of_block (a := ⟨FB, 0, none⟩) (k1 FB (Ne.symm hA.of) hA.fb)).trans h.fb, ?_⟩
  · refine (World.cell?_of_block (a := ⟨O, 0, none⟩) eO).trans ?_
    rw [World.cell?_setCell_same' _ _ _ (by rw [h.out]; rfl)]
  · exact (World.frozen?_of_block (a := ⟨O, 0, none⟩) eO).trans (by simp [h.outF])
  · exact owns_block (ownsRow_take (by have := h.row; simpa [nextP] using this)) (k1 R (Ne.symm hA.or) hA.rb)
  · have hp1 : ProbAt (w.setCell ⟨O, 0, none⟩ (.slice (some ⟨R, 0, none⟩) l.length p.many)) b (nextP p l.length c) := h.prob.of_block (Below.heap_setCell _ _ _ _ (by simpa using Ne.symm hA.ob))
    exact hp1.setMays hm

set_option maxRecDepth 100000 in
set_option maxHeartbeats 8000000 in
theorem search_step {t : Task} (hk : t.ok) {p0 : Prob} (hM : Matches p0 t) (hnev : p0.never = false) {O R PB FB b : Nat} (hA : Apart O R PB FB b) {m : Nat}
    (IH : ∀ (w : World) (l : List Int) (p : Prob), State p0 l p → Poss t l → Cols l → l.length + m = p.many → SearchAt w O R PB FB b l p →
      Calls Try.prog 38 #[.pointer (some ⟨O, 0, none⟩), .pointer (some ⟨PB, 0, none⟩), .pointer (some ⟨FB, 0, none⟩)] w (SPost t O R PB FB b l p m w))
    {w : World} {l : List Int} {p : Prob} (hS : State p0 l p) (hP : Poss t l) (hC : Cols l) (hl : l.length + (m + 1) = p.many) (h : SearchAt w O R PB FB b l p) (hE : enoughB p l.length = true) :
    Calls Try.prog 38 #[.pointer (some ⟨O, 0, none⟩), .pointer (some ⟨PB, 0, none⟩), .pointer (some ⟨FB, 0, none⟩)] w (SPost t O R PB FB b l p (m + 1) w) := by
  have hIH := Lib.hid IH
  clear IH
  have HN := Lib.hid (fun (c : Nat) (hc : c < 6) => poss_next hk hM hnev hS hP (by omega) hc)
  have HNX := Lib.hid (fun (c : Nat) (hc : c < 6) => state_next hS (by omega) hc)
  have HPC := Lib.hid (show Poss t l ∧ Cols l from ⟨hP, hC⟩)
  have HM := Lib.hid hM
  have HSB : Hid (solveB t (m + 1) l = (List.range 6).findSome? (fun (c : Nat) => solveB t m (l ++ [(c : Int)]))) := by
    unfold Hid
    rw [solveB, if_pos ((poss_iff hk hC).2 hP)]
  have hw := hS.wf
  have h1 := h.out
  have h2 := h.pb
  have h3 := h.prob.many
  have h16 := hw.many
  have HE := Lib.hid hE
  have hne : ((l.length : Int) == (p.many : Int)) = false := by simp; omega
  have hn16 : l.length < 16 := by omega
  have i1 : (l.length : Int) < 16 := by omega
  clear hE hP hC hM
  go_enter Try.func38, Try.ntmps38
  go_wp2_with fail
  refine (enough_any h.prob hw (by omega)).mono ?_
  rintro e w1 ⟨rfl, hb1⟩
  rw [HE.out]
  have hA1 := h.below hb1
  have hK1 : Kept3 O R b w w1 := (Kept3.refl ..).below hb1
  have j1 := hA1.pb
  have j2 := hA1.prob.may hn16
  have hX64 := hw.mayB l.length
  clear h1 h2 h3 hb1
  obtain ⟨M, hMM⟩ : ∃ M, M = p.may.getD l.length 0 := ⟨_, rfl⟩
  rw [← hMM] at j2 hX64
  have HMM := Lib.hid hMM
  clear hMM
  go_wp2_with fail
  clear j1 j2 hne
  go_loopw [5] (fun x wr => ∃ X : Nat, x = .int .u8 X ∧ X < 64 ∧ (∀ d, d < 6 → X.testBit d = true → M.testBit d = true) ∧ (∀ d : Nat, d < 6 → M.testBit d = true → X.testBit d = false → solveB t m (l ++ [(d : Int)]) = none) ∧ SearchAt wr O R PB FB b l p ∧ Kept3 O R b w wr) (fun x _ => (intOf x).toNat)
  case atStart => exact ⟨M, rfl, hX64, fun _ _ h => h, fun d _ h1 h2 => (by rw [h1] at h2; cases h2), hA1, hK1⟩
  case round =>
    clear hA1 hK1
    obtain ⟨X, rfl, hX, hsub, hdone, hAt, hKp⟩ := hrel
    by_cases hX0 : X = 0
    · subst hX0
      go_wp2
      go_ret
      refine ⟨hKp, .inr ⟨rfl, ?_, hAt⟩⟩
      rw [HSB.out]
      refine findSome_no fun d hd => ?_
      by_cases hMd : M.testBit d = true
      · exact hdone d hd hMd (by simp)
      · exact solveB_imposs hk HPC.out.2 hd m (fun hp => hMd (HMM.out ▸ ((HN.out d hd).1 hp).1))
    · have hx0 : ((X : Int) != 0) = true := by simp; omega
      have HSUB := Lib.hid hsub
      have HDONE := Lib.hid hdone
      clear hsub hdone
      obtain ⟨tz6, tzb, tz64, tzd⟩ := tz_tab X hX hX0
      have HTZ := Lib.hid (show X.testBit (tz X) = true ∧ ∀ d, d < 6 → (X &&& (X - 1)).testBit d = (X.testBit d && decide (tz X < d)) ∧ (d < tz X → X.testBit d = false) from ⟨tzb, tzd⟩)
      clear tzb tzd
      have htz := fun w' => tz8_any (w := w') X hX
      have HTC := Lib.hid htz
      clear htz
      generalize hc : tz X = c at *
      have q1 := hAt.pb
      have q2 := hAt.prob.left tz6
      obtain ⟨L, hLL⟩ : ∃ L, L = p.left.getD c 0 := ⟨_, rfl⟩
      rw [← hLL] at q2
      have hL1 := hw.leftB c
      rw [← hLL] at hL1
      have HLL := Lib.hid hLL
      clear hLL
      by_cases hL0 : L = 0
      · subst hL0
        have HAT := Lib.hid hAt
        clear hAt
        have hap := and_pred hX0 hX
        go_wp2_with (go_at_call 40; refine (HTC.out _).mono ?_; rintro e w2 ⟨rfl, rfl⟩)
        have hnone : solveB t m (l ++ [(c : Int)]) = none := solveB_imposs hk HPC.out.2 tz6 m (fun hp => ((HN.out c tz6).1 hp).2 HLL.out.symm)
        obtain ⟨r1, r2⟩ := rel_next (P := fun d => solveB t m (l ++ [(d : Int)]) = none) HSUB.out HDONE.out HTZ.out hnone
        go_roundw
        case rel => exact ⟨X &&& (X - 1), rfl, tz64, r1, r2, HAT.out, hKp⟩
        case measure => have := and_pred_lt hX0; simp only [intOf]; omega
      · have hl0 : (L == 0) = false := by simp [hL0]
        have HAT := Lib.hid hAt
        clear hAt
        go_wp2_with (first | (go_at_call 40; refine (HTC.out _).mono ?_; rintro e w2 ⟨rfl, rfl⟩) | (refine wpList_load_mid rfl 86 (.tmp 44) rfl b 0 rfl (u8s p.may) _ HAT.out.prob.mays und_u8s rfl (u8s_len hw.may) ?_) | (refine wpList_store_mid rfl 86 (.tmp 7) (.tmp 45) rfl wr.heap.size 0 _ rfl rfl (was_there wr (by simp [u8s, hw.may])) (u8s_size hw.may) (u8s_ones _) ?_; generalize hW2 : World.setCells _ _ _ _ = w2; obtain ⟨hWas, hB2, hs2⟩ := was_stored wr w2 p.may hw.may hW2; clear hW2; have HAT2 := Lib.hid (HAT.out.below hB2); have q3 := HAT2.out.pb; have q4 := HAT2.out.prob.many))
        have hun := hw.unlB l.length
        have hKp2 : Kept3 O R b w w2 := hKp.below hB2
        have HU : ∃ U, U = p.unl.getD l.length 0 := ⟨_, rfl⟩
        obtain ⟨U, hU⟩ := HU
        rw [← hU] at hun
        have HU := Lib.hid hU
        clear hU hl0
        have hAp : mayTo p l.length c (l.length + 1) = p.may := mayTo_start p hw _ _
        obtain ⟨wo, rfl⟩ : ∃ wo : World, wo = wr := ⟨_, rfl⟩
        go_loopw [8] (fun x w3 => ∃ k : Nat, l.length + 1 ≤ k ∧ k ≤ p.many ∧ x = .int .i64 k ∧ SearchAt w3 O R PB FB b l { p with may := mayTo p l.length c k } ∧ WasAt w3 wo.heap.size p.may ∧ Kept3 O R b w w3 ∧ wo.heap.size < w3.heap.size) (fun x _ => p.many - (intOf x).toNat)
        case atStart => exact ⟨l.length + 1, Nat.le_refl _, by omega, rfl, by rw [hAp]; exact HAT2.out, hWas, hKp2, by omega⟩
        case round =>
          clear hWas hB2 hKp2 q3 q4 hs2 hAp
          obtain ⟨k, hk1, hk2, rfl, hAt3, hW3, hK3, hs3⟩ := hrel
          have q3 := hAt3.pb
          have q4 := hAt3.prob.many
          have q5 := hAt3.prob.unl hn16
          have HAT3 := Lib.hid hAt3
          clear hAt3
          by_cases hkm : k < p.many
          · have q6 := HAT3.out.prob.may (k := k) (by omega)
            have q7 := HAT3.out.prob.frozen k
            have hbit := u64_bit1 U k (by omega)
            rw [← HU.out] at q5
            have hvlt : (mayTo p l.length c k).getD k 0 < 64 := by
              rw [mayTo_get _ _ _ _ (by omega), if_neg (by omega)]; exact hw.mayB k
            generalize hv : (mayTo p l.length c k).getD k 0 = v at *
            have HV := Lib.hid hv
            clear hv
            have hclr := andNot_clr hvlt tz6
            rcases Bool.eq_false_or_eq_true (U.testBit k) with hb | hb
            · have HB := Lib.hid hb
              rw [hb] at hbit
              clear hb
              go_wp2
              go_region
              go_wp2
              have hW5 : WasAt (wr.setCell ⟨b, k, none⟩ (.int .u8 (clr v c : Nat))) wo.heap.size p.may := hW3.of_block (Below.heap_setCell wr _ _ _ (by have := HAT.out.prob.lt; simp; omega))
              have hP5 := HAT3.out.prob.setMay (k := k) (by omega) (clr v c)
              have hy := mayTo_yes p (n := l.length) (c := c) (K := k) (by omega) (by omega) (by rw [← HU.out]; exact HB.out)
              rw [HV.out] at hy
              simp only [← hy] at hP5
              have hA5 := HAT3.out.setProb (p' := { p with may := mayTo p l.length c (k + 1) }) (w' := wr.setCell ⟨b, k, none⟩ (.int .u8 (clr v c : Nat))) hA rfl (fun j hj => Below.heap_setCell wr _ _ j (by simpa using hj)) hP5
              go_roundw
              case rel => exact ⟨k + 1, by omega, by omega, by go_num, hA5.of_blocks rfl rfl rfl rfl rfl, hW5, (hK3.set (.inr (.inr rfl)) _).drew, by simpa [World.setCell] using hs3⟩
              case measure => simp [intOf]; omega
            · have HB := Lib.hid hb
              rw [hb] at hbit
              clear hb
              go_wp2
              have hy := mayTo_no p (n := l.length) (c := c) (K := k) (by rw [← HU.out]; exact HB.out)
              go_roundw
              case rel => exact ⟨k + 1, by omega, by omega, by go_num, by rw [hy]; exact HAT3.out, hW3, hK3, hs3⟩
              case measure => simp [intOf]; omega
          · obtain rfl : k = p.many := by omega
            have q8 : wr.cell? ⟨O, 0, none⟩ = some (.slice (some ⟨R, 0, none⟩) l.length p.many) := HAT3.out.out
            clear q5 hk1 hk2 hkm
            obtain ⟨i0, hi0, hz0, hz1, hz2⟩ := info_parts info_int
            have hlt3 : O < wr.heap.size ∧ PB < wr.heap.size ∧ FB < wr.heap.size ∧ b < wr.heap.size ∧ R < wr.heap.size := ⟨cell_lt HAT3.out.out, cell_lt HAT3.out.pb, cell_lt HAT3.out.fb, HAT3.out.prob.lt, HAT3.out.row_lt⟩
            have HLT := Lib.hid hlt3
            clear hlt3
            have hA' := Lib.hid hA
            have n1 : ¬ PB = O := Ne.symm hA.op
            have n2 : ¬ O = PB := hA.op
            have n3 : ¬ b = O := Ne.symm hA.ob
            have n4 : ¬ O = b := hA.ob
            have n5 : ¬ FB = O := Ne.symm hA.of
            have n6 : ¬ FB = b := hA.fb
            have n7 : ¬ PB = b := hA.pb
            have n8 : ¬ b = PB := Ne.symm hA.pb
            have n9 : ¬ b = FB := Ne.symm hA.fb
            go_wp2_with (at_builtin; refine wpList_append_fits (wr.alloc (.cells #[.int .i64 (c : Int)] 3)) rfl (.tmp 78) (.tmp 80) 47 rfl R 3 i0 1 Try.underlying47 hi0 hz1 R l.length p.many (ints l) rfl (HAT3.out.row.alloc _) ⟨wr.heap.size, 0, none⟩ 1 1 [.int .i64 (c : Int)] rfl rfl (lit_one wr _ _) (by simp [Value.oneCell']) (by omega) ?_; intro w5 hown hgrow; have hX5 : Hid (∀ k, k < wr.heap.size → k ≠ R → w5.heap[k]? = wr.heap[k]?) := (fun k hk hne => (hgrow.block k (by simp; omega) (by simpa using hne)).trans (Below.heap_alloc wr _ k hk)); have o5 := (World.cell?_of_block (a := ⟨O, 0, none⟩) (hX5.out O HLT.out.1 hA'.out.or)).trans q8; have f5 := (World.frozen?_of_block (a := ⟨O, 0, none⟩) (hX5.out O HLT.out.1 hA'.out.or)).trans HAT3.out.outF; have p5 := (World.cell?_of_block (a := ⟨PB, 0, none⟩) (hX5.out PB HLT.out.2.1 (Ne.symm hA'.out.rp))).trans q3; have g5 := (World.cell?_of_block (a := ⟨FB, 0, none⟩) (hX5.out FB HLT.out.2.2.1 (Ne.symm hA'.out.rf))).trans HAT3.out.fb; have eb5 := hX5.out b HLT.out.2.2.2.1 (Ne.symm hA'.out.rb); have pr5 := Lib.hid (HAT3.out.prob.of_block eb5); have l5 := pr5.out.left tz6; rw [show ({ p with may := mayTo p l.length c p.many } : Prob).left.getD c 0 = L from HLL.out.symm] at l5; have fb5 := pr5.out.frozen (32 + c); clear q3 q4 q8)
            go_region
            go_wp2_with fail
            have hSt := HNX.out c tz6 (by rw [← HLL.out]; exact hL0)
            have hPo := (HN.out c tz6).2 ⟨by rw [← HMM.out]; exact HSUB.out c tz6 HTZ.out.1, by rw [← HLL.out]; exact hL0⟩
            have hPush := search_push hA'.out tz6 hown o5 f5 p5 g5 pr5.out
            rw [← HLL.out] at hPush
            have hK7 := (((((hK3.alloc (.cells #[.int .i64 (c : Int)] 3)).grown hgrow (fun k e => by cases e; exact .inr (.inl rfl))).set (a := ⟨O, 0, none⟩) (.inl rfl) (.slice (some ⟨R, 0, none⟩) (l.length + 1) p.many)).set (a := ⟨b, 32 + c, none⟩) (.inr (.inr rfl)) (.int .i64 (L - 1)))).drew
            have hwo : wo.heap.size < w5.heap.size := by have := hgrow.size; simp at this; omega
            have hneW : wo.heap.size ≠ O ∧ wo.heap.size ≠ R ∧ wo.heap.size ≠ b := by
              have e1 := cell_lt HAT.out.out
              have e2 := HAT.out.row_lt
              have e3 := HAT.out.prob.lt
              omega
            have hW7 : WasAt ((w5.setCell ⟨O, 0, none⟩ (.slice (some ⟨R, 0, none⟩) (l.length + 1) p.many)).setCell ⟨b, 32 + c, none⟩ (.int .i64 (L - 1))).drew wo.heap.size p.may :=
              hW3.of_block ((Below.heap_setCell _ _ _ _ (by simpa using hneW.2.2)).trans ((Below.heap_setCell _ _ _ _ (by simpa using hneW.1)).trans (hX5.out _ hs3 hneW.2.1)))
            have hs7 : ((w5.setCell ⟨O, 0, none⟩ (.slice (some ⟨R, 0, none⟩) (l.length + 1) p.many)).setCell ⟨b, 32 + c, none⟩ (.int .i64 (L - 1))).drew.heap.size = w5.heap.size := by simp [World.setCell]
            have hAt7 : SearchAt ((w5.setCell ⟨O, 0, none⟩ (.slice (some ⟨R, 0, none⟩) (l.length + 1) p.many)).setCell ⟨b, 32 + c, none⟩ (.int .i64 (L - 1))).drew O R PB FB b (l ++ [(c : Int)]) (nextP p l.length c) := hPush.of_blocks rfl rfl rfl rfl rfl
            clear hPush
            generalize ((w5.setCell ⟨O, 0, none⟩ (.slice (some ⟨R, 0, none⟩) (l.length + 1) p.many)).setCell ⟨b, 32 + c, none⟩ (.int .i64 (L - 1))).drew = w7 at *
            clear o5 f5 p5 g5 eb5 l5 fb5 hown
            refine (hIH.out w7 (l ++ [(c : Int)]) (nextP p l.length c) hSt hPo (cols_snoc HPC.out.2 tz6) (by simp [nextP]; omega) hAt7).mono ?_
            clear hAt7
            rintro e w8 ⟨hK8, (⟨r, p', rfl, hr, hAt8, hm8⟩ | ⟨rfl, hr, hAt8⟩)⟩
            · go_wp2
              go_ret
              refine ⟨hK7.trans hK8, .inl ⟨r, p', rfl, ?_, hAt8, hm8⟩⟩
              rw [HSB.out]
              refine findSome_yes tz6 (fun d hd => ?_) hr
              by_cases hMd : M.testBit d = true
              · exact HDONE.out d (by omega) hMd ((HTZ.out.2 d (by omega)).2 hd)
              · exact solveB_imposs hk HPC.out.2 (by omega) m (fun hp => hMd (HMM.out ▸ ((HN.out d (by omega)).1 hp).1))
            · have hW8 : WasAt w8 wo.heap.size p.may := hW7.of_block (hK8.block _ (by omega) hneW.1 hneW.2.1 hneW.2.2)
              have o8 : w8.cell? ⟨O, 0, none⟩ = some (.slice (some ⟨R, 0, none⟩) (l.length + 1) p.many) := by
                have := hAt8.out
                simpa [nextP] using this
              have f8 := hAt8.outF
              have p8 := hAt8.pb
              have HAT8 := Lib.hid hAt8
              obtain ⟨mf, hmf⟩ : ∃ mf : Nat → Nat, ∀ k, mf k = p.may.getD k 0 := ⟨fun k => p.may.getD k 0, fun _ => rfl⟩
              have d8 : ∀ k, k < 16 → w8.cell? ⟨wo.heap.size, k, none⟩ = some (.int .u8 (mf k : Nat)) := fun k hk => by rw [hmf]; exact hW8.cell hk
              obtain ⟨mg, hmg⟩ : ∃ mg : Nat → Nat, ∀ k, mg k = (nextP p l.length c).may.getD k 0 := ⟨fun k => (nextP p l.length c).may.getD k 0, fun _ => rfl⟩
              have c8 : ∀ k, k < 16 → w8.cell? ⟨b, k, none⟩ = some (.int .u8 (mg k : Nat)) := fun k hk => by rw [hmg]; exact hAt8.prob.may hk
              have z8 : ∀ k, w8.frozen? ⟨b, k, none⟩ = false := fun k => hAt8.prob.frozen k
              have HMF := Lib.hid hmf
              have HMG := Lib.hid hmg
              clear hmf hmg hAt8 hW8 hW3 hW7
              have i8 : (l.length : Int) ≤ (p.many : Int) := by omega
              go_wp2
              go_region
              go_wp2
              have hpop := search_pop hA'.out hw.may hw.left HMF.out HAT8.out
              generalize (((((((((((((((((w8.setCell ⟨O, 0, none⟩ (.slice (some ⟨R, 0, none⟩) l.length p.many)).setCell ⟨b, 0, none⟩ (.int .u8 (mf 0 : Nat))).setCell ⟨b, 1, none⟩ (.int .u8 (mf 1 : Nat))).setCell ⟨b, 2, none⟩ (.int .u8 (mf 2 : Nat))).setCell ⟨b, 3, none⟩ (.int .u8 (mf 3 : Nat))).setCell ⟨b, 4, none⟩ (.int .u8 (mf 4 : Nat))).setCell ⟨b, 5, none⟩ (.int .u8 (mf 5 : Nat))).setCell ⟨b, 6, none⟩ (.int .u8 (mf 6 : Nat))).setCell ⟨b, 7, none⟩ (.int .u8 (mf 7 : Nat))).setCell ⟨b, 8, none⟩ (.int .u8 (mf 8 : Nat))).setCell ⟨b, 9, none⟩ (.int .u8 (mf 9 : Nat))).setCell ⟨b, 10, none⟩ (.int .u8 (mf 10 : Nat))).setCell ⟨b, 11, none⟩ (.int .u8 (mf 11 : Nat))).setCell ⟨b, 12, none⟩ (.int .u8 (mf 12 : Nat))).setCell ⟨b, 13, none⟩ (.int .u8 (mf 13 : Nat))).setCell ⟨b, 14, none⟩ (.int .u8 (mf 14 : Nat))).setCell ⟨b, 15, none⟩ (.int .u8 (mf 15 : Nat))) = w9 at *
              obtain ⟨hAt9, hK9⟩ := hpop
              have p9 := hAt9.pb
              have l9 := hAt9.prob.left tz6
              have hset : ({ p with left := p.left.set c (p.left.getD c 0 - 1) } : Prob).left.getD c 0 = L - 1 := by
                show (p.left.set c (p.left.getD c 0 - 1)).getD c 0 = L - 1
                rw [left_set (by rw [hw.left]; exact tz6), if_pos rfl, HLL.out]
              rw [hset] at l9
              have z9 := hAt9.prob.frozen (32 + c)
              have HAT9 := Lib.hid hAt9
              clear hAt9 d8 c8 z8 o8 f8 p8
              have hap := and_pred hX0 hX
              go_region
              go_wp2
              have hP10 := HAT9.out.prob.setLeft tz6 L
              have hA10 : SearchAt (w9.setCell ⟨b, 32 + c, none⟩ (.int .i64 L)) O R PB FB b l p := by
                refine HAT9.out.setProb hA'.out rfl (fun j hj => Below.heap_setCell w9 _ _ j (by simpa using hj)) ?_
                have := prob_back p (c := c) (by rw [hw.left]; exact tz6) (p.left.getD c 0 - 1)
                rw [← HLL.out] at this
                rw [← HLL.out] at hP10
                rw [← this]
                exact hP10
              obtain ⟨r1, r2⟩ := rel_next (P := fun d => solveB t m (l ++ [(d : Int)]) = none) HSUB.out HDONE.out HTZ.out hr
              go_roundw
              case rel => exact ⟨X &&& (X - 1), rfl, tz64, r1, r2, hA10.of_blocks rfl rfl rfl rfl rfl, (((hK7.trans hK8).trans hK9).set (a := ⟨b, 32 + c, none⟩) (.inr (.inr rfl)) (.int .i64 L)).drew.drew⟩
              case measure => have := and_pred_lt hX0; simp only [intOf]; omega
end Go.Proofs.Ytegbbkmppphddaa
