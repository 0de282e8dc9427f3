/- Wishes that are appended, at one operation alone; a box that is stored whole. -/
import Derived.Test.YtegbbkmppphddaaDoorWishApp
import Derived.Test.YtegbbkmppphddaaDoorLaw34
import Derived.Test.YtegbbkmppphddaaDoorLawsP
set_option linter.unusedVariables false
set_option linter.unusedSimpArgs false
namespace Go.Proofs.YtegbbkmppphddaaDoor
open Go.RowKit

theorem wp_append_wishes {P : Program} (w : World) {o : Oper} {a : Act} {K : Act → World → Prop} {Q : Exit → Act → World → Prop} (s x : Operand) (t e : TypeId) (i : TypeInfo)
    (ho : o.op = .call { callee := .builtin .append, args := #[s, x], argTypes := #[t, t] })
    (ht : P.underlying t = some (.slice e)) (hi : P.info? e = some i) (hz : i.zero = some (.agg #[.int .i64 0, .int .u8 0])) (hsize : i.size = 2) (hby : i.bytes = 16)
    (base : Nat) (v : Value) (xs : List Wish) (hs : a.eval s = v) (hown : w.ownsRow base e 2 v xs.length (wishCells xs)) (A : Option Addr) (c : Nat) (l : List Wish) (hx : a.eval x = .slice A l.length c) (hl : Rows w A 2 (l.map Wish.cells)) (hnil : A = none → c = 0)
    (h63 : xs.length + l.length ≤ 1000000) (hbase : base ≤ w.heap.size)
    (h : ∀ L A' c' w', L = xs ++ l → w'.ownsRow base e 2 (.slice A' L.length c') L.length (wishCells L) → w.grownBy w' v.ownBlock → (∀ k, v.ownBlock = some k → base ≤ k) → K (a.put o.dst (.slice A' L.length c')) w') :
    o.wp P a w K Q := by
  obtain ⟨v', w', hr, h2, h3, h4, A', c', rfl⟩ := run_append_wishes (P := P) w t o.type e i ht hi hz hsize hby base v xs hown A c l hl hnil h63 hbase
  unfold Oper.wp execOp
  simp only [ho, resolve, invoke, builtin, Sem.run_bind, Sem.run_pure, Result.andThen_ok, List.map_toArray, List.map_cons, List.map_nil, hs, hx, hr]
  exact h _ A' c' w' rfl h2 h3 (fun k hk => (hown.lt k hk).1)
theorem wp_append_wish {P : Program} (w : World) {o : Oper} {a : Act} {K : Act → World → Prop} {Q : Exit → Act → World → Prop} (s x : Operand) (t e : TypeId) (i : TypeInfo)
    (ho : o.op = .call { callee := .builtin .append, args := #[s, x], argTypes := #[t, t] })
    (ht : P.underlying t = some (.slice e)) (hi : P.info? e = some i) (hz : i.zero = some (.agg #[.int .i64 0, .int .u8 0])) (hsize : i.size = 2) (hby : i.bytes = 16)
    (base : Nat) (v : Value) (l : List Wish) (hs : a.eval s = v) (hown : w.ownsRow base e 2 v l.length (wishCells l)) (A : Addr) (ws : Wish) (hx : a.eval x = .slice (some A) 1 1) (hl : ∀ j u, ws.cells[j]? = some u → w.cell? (A.add j) = some u)
    (h63 : l.length + 1 ≤ 1000000) (hbase : base ≤ w.heap.size)
    (h : ∀ L g cap w', L = l ++ [ws] → w'.ownsRow base e 2 (.slice (some ⟨g, 0, none⟩) L.length cap) L.length (wishCells L) → w.grownBy w' v.ownBlock → (∀ k, v.ownBlock = some k → base ≤ k) → g < w'.heap.size → base ≤ g → K (a.put o.dst (.slice (some ⟨g, 0, none⟩) L.length cap)) w') :
    o.wp P a w K Q :=
  wp_append_lies w s x t ho base e i (.agg #[.int .i64 0, .int .u8 0]) 2 16 ht hi hz hsize hby rfl (by omega) v l.length (wishCells l) hs hown A 1 1 ws.cells hx rfl hl (wish_ones ws) (by omega) (by unfold maxLen; omega) (by omega) hbase _ rfl
    fun g cap w' h1 h2 h3 h4 => by
      have e1 : (l ++ [ws]).length = l.length + 1 := by simp
      have e2 : wishCells (l ++ [ws]) = wishCells l ++ ws.cells := by rw [wishCells_append]; simp [wishCells]
      rw [← e1, ← e2] at h1
      rw [← e1]
      exact h _ g cap w' rfl h1 h2 (fun k hk => (hown.lt k hk).1) h4 (by have := (h1.lt g rfl).1; exact this)
theorem box_put {w : World} {B : Nat} {cA : Option Addr} {cc : Nat} {pA : Option Addr} {pc : Nat} {wA : Option Addr} {wc : Nat} {uA : Option Addr} {uc : Nat} {t : Task}
    {cA' : Option Addr} {cc' : Nat} {pA' : Option Addr} {pc' : Nat} {wA' : Option Addr} {wc' : Nat} {uA' : Option Addr} {uc' : Nat} {t' : Task} (h : TaskBox w B cA' cc' pA' pc' wA' wc' uA' uc' t') {B0 : Nat} (hb : B0 ≤ B) {W' : World}
    (hW : ((((((((((w.setCell ⟨B, 0, none⟩ (.int .i64 t.cloth.threads)).setCell ⟨B, 1, none⟩ (.slice cA t.cloth.crosses.length cc)).setCell ⟨B, 2, none⟩ (.slice pA t.cloth.pins.length pc)).setCell ⟨B, 3, none⟩ (.slice wA t.wishes.length wc)).setCell ⟨B, 4, none⟩ (.slice uA t.unlike.length uc)).setCell ⟨B, 5, none⟩ (.int .i64 t.s0)).setCell ⟨B, 6, none⟩ (.int .i64 t.s1)).setCell ⟨B, 7, none⟩ (.int .i64 t.s2)).setCell ⟨B, 8, none⟩ (.int .i64 t.s3)).setCell ⟨B, 9, none⟩ (.int .i64 t.s4)).setCell ⟨B, 10, none⟩ (.int .i64 t.s5) = W') :
    TaskBox W' B cA cc pA pc wA wc uA uc t ∧ (∀ o, W'.frozen? ⟨B, o, none⟩ = w.frozen? ⟨B, o, none⟩) ∧ Below B0 w W' := by
  obtain ⟨hlt, y0, y1, y2, y3, y4, y5, y6, y7, y8, y9, y10⟩ := h
  subst hW
  refine ⟨⟨?_, ?_, ?_, ?_, ?_, ?_, ?_, ?_, ?_, ?_, ?_, ?_⟩, fun o => by simp, ?_⟩
  · simpa only [World.size_setCell] using hlt
  all_goals first | (go_simp; done) | skip
  exact ((((((((((((Below.refl _ _).setCell hb _).setCell hb _).setCell hb _).setCell hb _).setCell hb _).setCell hb _).setCell hb _).setCell hb _).setCell hb _).setCell hb _).setCell hb _)
theorem wpAnyL_two {P : Program} {ops : Array Oper} {Q : Exit → Act → World → Prop} {md : Region.Mode} {S : World → Prop} {L : Nat} {i k : Nat} {o o' : Oper} {fuel : Nat} {listed : Array Bool} {a : Act} {w : World} (hr : Region.ready md ops listed = [i, k]) (ho : ops[i]? = some o) (ho' : ops[k]? = some o')
    (hw : Region.wanted o (yielded ops a.tmps) = true) (hw' : Region.wanted o' (yielded ops a.tmps) = true)
    (h : ∀ K : Act → World → Prop, (∀ a' w', (i ≠ L → S w') → wpAnyL P md ops Q S L fuel (listed.setIfInBounds i true) a' w' → K a' w') → o.wp P a w K Q)
    (h' : ∀ K : Act → World → Prop, (∀ a' w', (k ≠ L → S w') → wpAnyL P md ops Q S L fuel (listed.setIfInBounds k true) a' w' → K a' w') → o'.wp P a w K Q) : wpAnyL P md ops Q S L (fuel + 1) listed a w := by
  refine ⟨fun h0 => (by rw [h0] at hr; cases hr), fun j hj => ?_⟩
  rw [hr] at hj
  simp only [List.mem_cons, List.not_mem_nil, or_false] at hj
  rcases hj with rfl | rfl
  · unfold wpOp
    simp only [ho, hw, if_true]
    exact .inl (h _ (fun a' w' hS hh => ⟨hS, hh⟩))
  · unfold wpOp
    simp only [ho', hw', if_true]
    exact .inl (h' _ (fun a' w' hS hh => ⟨hS, hh⟩))
def CellsAt (w : World) (N : Nat) (ws : Wish) : Prop := ∀ j u, ws.cells[j]? = some u → w.cell? ((⟨N, 0, none⟩ : Addr).add j) = some u
theorem cellsAt_lit (w : World) (ws : Wish) (ty : TypeId) : CellsAt (w.alloc (.cells #[.int .i64 ws.cross, .int .u8 (ws.allowed : Nat)] ty)) w.heap.size ws := lit_wish w ws ty
theorem cellsAt_block {w w' : World} {N : Nat} {ws : Wish} (h : CellsAt w N ws) (hb : w'.heap[N]? = w.heap[N]?) : CellsAt w' N ws := by
  intro j u hj
  have := h j u hj
  rw [← this]
  unfold Addr.add
  split
  · exact World.cell?_of_block (a := ⟨N, 0, none⟩) hb
  · exact World.cell?_of_block (a := ⟨N, 0 + j, none⟩) hb
theorem cellsAt_alloc {w : World} {N : Nat} {ws : Wish} (h : CellsAt w N ws) (hN : N < w.heap.size) (o : Obj) : CellsAt (w.alloc o) N ws := cellsAt_block h (Below.heap_alloc w _ _ hN)
theorem cellsAt_grown {w w' : World} {N : Nat} {ws : Wish} {row : Option Nat} (h : CellsAt w N ws) (hg : w.grownBy w' row) (hN : N < w.heap.size) (hne : some N ≠ row) : CellsAt w' N ws := cellsAt_block h (hg.block N hN hne)
theorem held_box (w : World) (o : Obj) : HeldB w.heap.size w ((w.alloc o).drew) := heldB_of ((Below.refl _ _).alloc (Nat.le_refl _) _).drew
theorem own_lit_wish2 {base e : Nat} (W : World) (h : base ≤ W.heap.size) : ((W.alloc (.cells #[] e)).drew).ownsRow base e 2 (.slice (some ⟨W.heap.size, 0, none⟩) ([] : List Wish).length 0) ([] : List Wish).length (wishCells []) := own_lit_wish W h rfl
theorem own_lit_wish3 {base e : Nat} (W : World) (h : base ≤ W.heap.size) : (W.alloc (.cells #[] e)).ownsRow base e 2 (.slice (some ⟨W.heap.size, 0, none⟩) ([] : List Wish).length 0) ([] : List Wish).length (wishCells []) := own_lit_wish W h rfl
theorem cellsAt_alloc_drew (w : World) (ws : Wish) (ty : TypeId) : CellsAt ((w.alloc (.cells #[.int .i64 ws.cross, .int .u8 (ws.allowed : Nat)] ty)).drew) w.heap.size ws := lit_wish w ws ty
/-- Other wishes. -/
def setWT (t : Task) (L : List Wish) : Task := { t with wishes := L }
theorem TaskBox.setW {w : World} {B : Nat} {cA : Option Addr} {cc : Nat} {pA : Option Addr} {pc : Nat} {wA : Option Addr} {wc : Nat} {uA : Option Addr} {uc : Nat} {t : Task} (h : TaskBox w B cA cc pA pc wA wc uA uc t) (A : Option Addr) (c : Nat) (L : List Wish) :
    TaskBox (w.setCell ⟨B, 3, none⟩ (.slice A L.length c)) B cA cc pA pc A c uA uc (setWT t L) := by
  have ho : ∀ o, o ≠ 3 → (w.setCell ⟨B, 3, none⟩ (.slice A L.length c)).cell? ⟨B, o, none⟩ = w.cell? ⟨B, o, none⟩ := fun o ho => World.cell?_setCell_other _ ⟨B, 3, none⟩ ⟨B, o, none⟩ _ (by simp [ho])
  have hs : (w.setCell ⟨B, 3, none⟩ (.slice A L.length c)).cell? ⟨B, 3, none⟩ = some (.slice A L.length c) := World.cell?_setCell_same' _ _ _ (by rw [h.z3]; rfl)
  exact ⟨by simpa only [World.size_setCell] using h.lt, (ho 0 (by omega)).trans h.z0, (ho 1 (by omega)).trans h.z1, (ho 2 (by omega)).trans h.z2, hs, (ho 4 (by omega)).trans h.z4, (ho 5 (by omega)).trans h.z5, (ho 6 (by omega)).trans h.z6, (ho 7 (by omega)).trans h.z7, (ho 8 (by omega)).trans h.z8, (ho 9 (by omega)).trans h.z9, (ho 10 (by omega)).trans h.z10⟩
theorem TaskRd.setW {w : World} {cA : Option Addr} {cc : Nat} {pA : Option Addr} {pc : Nat} {wA : Option Addr} {wc : Nat} {uA : Option Addr} {uc : Nat} {t : Task} (h : TaskRd w cA cc pA pc wA wc uA uc t) {A : Option Addr} {c : Nat} {L : List Wish}
    (hL : ∀ y ∈ L, y.wf) (hr : Rows w A 2 (L.map Wish.cells)) (hl : L.length ≤ c) (hc : c ≤ maxLen) : TaskRd w cA cc pA pc A c uA uc (setWT t L) := by
  have hw := h.wf
  exact ⟨h.cloth, hr, hl, hc, h.unlike, h.ulen, h.ucap, ⟨hw.cloth, hL, hw.unlike, hw.s0, hw.s1, hw.s2, hw.s3, hw.s4, hw.s5⟩⟩
theorem wish_wf_snoc {t : Task} (h : t.wf) {q : Int} (hq : I64 q) {a : Nat} (ha : a < 256) : ∀ y ∈ ([] ++ t.wishes) ++ [(⟨q, a⟩ : Wish)], y.wf := by
  intro y hy
  simp only [List.nil_append, List.mem_append, List.mem_singleton] at hy
  rcases hy with hy | rfl
  · exact h.wishes y hy
  · exact ⟨hq, ha⟩
end Go.Proofs.YtegbbkmppphddaaDoor
