/- The reference's With, clash and Clash. -/
import Derived.Test.YtegbbkmppphddaaDoorCombos
import Derived.Test.YtegbbkmppphddaaDoorRefA
import Derived.Test.YtegbbkmppphddaaDoorClashA
set_option linter.unusedVariables false
set_option linter.unusedSimpArgs false
namespace Go.Proofs.YtegbbkmppphddaaDoor
open Go.RowKit

/-- Wishes of the call's own. -/
def wishCells (l : List Wish) : List Value := l.flatMap Wish.cells
theorem wishCells_append (l m : List Wish) : wishCells (l ++ m) = wishCells l ++ wishCells m := by simp [wishCells]
theorem wishCells_length (l : List Wish) : (wishCells l).length = l.length * 2 := by
  induction l with
  | nil => rfl
  | cons a l ih => simp only [wishCells, List.flatMap_cons, List.length_append, List.length_cons] at *; rw [ih]; simp [Wish.cells]; omega
theorem wishCells_get : ∀ (l : List Wish) (i : Nat) (r : List Value), (l.map Wish.cells)[i]? = some r → ∀ (j : Nat) (v : Value), r[j]? = some v → (wishCells l)[i * 2 + j]? = some v
  | [], i, r, h, j, v, hv => by simp at h
  | a :: l, 0, r, h, j, v, hv => by
    have : r = a.cells := by simpa using h.symm
    subst this
    have hj : j < 2 := by have := (List.getElem?_eq_some_iff.1 hv).1; simpa [Wish.cells] using this
    simp only [wishCells, List.flatMap_cons]
    rw [List.getElem?_append_left (by simp [Wish.cells]; omega)]
    simpa using hv
  | a :: l, i + 1, r, h, j, v, hv => by
    have := wishCells_get l i r (by simpa using h) j v hv
    simp only [wishCells, List.flatMap_cons] at *
    rw [List.getElem?_append_right (by simp [Wish.cells]; omega)]
    rw [← this]
    congr 1
    simp [Wish.cells]; omega
theorem wishCells_ones (l : List Wish) : ∀ u ∈ wishCells l, u.oneCell' = true := by
  intro u hu
  simp only [wishCells, List.mem_flatMap, Wish.cells] at hu
  obtain ⟨x, -, hu⟩ := hu
  simp at hu
  rcases hu with rfl | rfl <;> rfl
/-- A slice of wishes of the call's own reads as rows. -/
theorem rows_of_owns {w : World} {base e n : Nat} {A : Option Addr} {c : Nat} {l : List Wish} (h : w.ownsRow base e 2 (.slice A n c) n (wishCells l)) (hn : n = l.length) : Rows w A 2 (l.map Wish.cells) ∧ l.length ≤ c ∧ c ≤ maxLen := by
  subst hn
  rcases h.2 with ⟨hv, h0⟩ | ⟨g, cap, cur, hv, hb, hg, h1, h2, h3, h4⟩
  · simp only [Value.slice.injEq] at hv
    obtain ⟨rfl, -, rfl⟩ := hv
    obtain rfl := List.eq_nil_of_length_eq_zero h0
    exact ⟨.inl rfl, by simp, by unfold maxLen; omega⟩
  · simp only [Value.slice.injEq] at hv
    obtain ⟨rfl, -, rfl⟩ := hv
    refine ⟨.inr ⟨g, 0, rfl, (Array.getElem?_eq_some_iff.1 hg).1, fun i r hr j v hv => ?_⟩, h1, by first | exact h2 | omega⟩
    have hget := wishCells_get l i r hr j v hv
    have hlt := (List.getElem?_eq_some_iff.1 hget).1
    have hlt2 := hlt
    rw [wishCells_length] at hlt2
    have := h.cellAt (i * 2 + j) hlt2
    rw [Nat.zero_add, this]
    exact hget

theorem info_wish : (Tryd.prog.info? 43).map (fun i => (i.zero, i.size, i.bytes)) = some (some (.agg #[.int .i64 0, .int .u8 0]), 2, 16) := by kernel_rfl
def natInts (l : List Nat) : List Int := l.map fun (i : Nat) => (i : Int)
theorem natInts_length (l : List Nat) : (natInts l).length = l.length := by simp [natInts]
theorem natInts_get {l : List Nat} {k : Nat} (h : k < l.length) : (natInts l)[k]'(by rw [natInts_length]; exact h) = (l[k] : Int) := by simp [natInts]
theorem withT_take (t : Task) (l : List Nat) (k : Nat) (h : k < l.length) : (withT t (l.take (k + 1))).wishes = (withT t (l.take k)).wishes ++ [t.wishes.getD l[k] default] := by
  simp only [withT]
  rw [List.take_succ_eq_append_getElem h, List.map_append]
  rfl
theorem lit_wish (w : World) (ws : Wish) (ty : TypeId) : ∀ j u, ws.cells[j]? = some u → (w.alloc (.cells #[.int .i64 ws.cross, .int .u8 (ws.allowed : Nat)] ty)).cell? ((⟨w.heap.size, 0, none⟩ : Addr).add j) = some u := by
  intro j u h
  have hj : j < 2 := by have := (List.getElem?_eq_some_iff.1 h).1; simpa [Wish.cells] using this
  have hj' : j = 0 ∨ j = 1 := by omega
  rcases hj' with rfl | rfl
  · have : Value.int .i64 ws.cross = u := by simpa [Wish.cells] using h
    subst this
    simp [Addr.add]
  · have : Value.int .u8 (ws.allowed : Int) = u := by simpa [Wish.cells] using h
    subst this
    simp [Addr.add]
theorem wish_ones (ws : Wish) : ∀ u ∈ ws.cells, u.oneCell' = true := by
  intro u hu
  simp [Wish.cells] at hu
  rcases hu with rfl | rfl <;> rfl
/-- 'append(s, x)': s a slice of wishes that the call owns, x one wish in a block of its own; at a step of a region that draws. -/
theorem step_append_wish {P : Program} {w : World} {ops : Array Oper} {o : Oper} {a : Act} {K : Act → World → Prop} {Q : Exit → Act → World → Prop} {E : Prop} (hgd : o.guard = none) (s x : Operand) (t e : TypeId) (i : TypeInfo)
    (ho : o.op = .call { callee := .builtin .append, args := #[s, x], argTypes := #[t, t] })
    (ht : P.underlying t = some (.slice e)) (hi : P.info? e = some i) (hz : i.zero = some (.agg #[.int .i64 0, .int .u8 0])) (hsize : i.size = 2) (hby : i.bytes = 16)
    (base : Nat) (v : Value) (n : Nat) (xs : List Value) (hs : a.eval s = v) (hown : w.ownsRow base e 2 v n xs) (A : Addr) (ws : Wish) (hx : a.eval x = .slice (some A) 1 1) (hl : ∀ j u, ws.cells[j]? = some u → w.cell? (A.add j) = some u)
    (h63 : n + 1 ≤ 1000000) (hbase : base ≤ w.heap.size)
    (h : ∀ g cap w', w'.ownsRow base e 2 (.slice (some ⟨g, 0, none⟩) (n + 1) cap) (n + 1) (xs ++ ws.cells) → w.grownBy w' v.ownBlock → (∀ k, v.ownBlock = some k → base ≤ k) → K (a.put o.dst (.slice (some ⟨g, 0, none⟩) (n + 1) cap)) w') :
    if Region.wanted o (yielded ops a.tmps) = true then Oper.wp P o a w K Q else E :=
  step_append_lies w hgd s x t ho base e i (.agg #[.int .i64 0, .int .u8 0]) 2 16 ht hi hz hsize hby rfl (by omega) v n xs hs hown A 1 1 ws.cells hx rfl hl (wish_ones ws) (by omega) (by unfold maxLen; omega) (by omega) hbase _ rfl
    fun g cap w' h1 h2 _ _ => h g cap w' h1 h2 (fun k hk => (hown.lt k hk).1)
theorem owns_alloc_drew {w : World} {base e sz n : Nat} {v : Value} {xs : List Value} (h : w.ownsRow base e sz v n xs) (o : Obj) : ((w.alloc o).drew).ownsRow base e sz v n xs := h.alloc o
theorem lit_wish_drew (w : World) (ws : Wish) (ty : TypeId) : ∀ j u, ws.cells[j]? = some u → ((w.alloc (.cells #[.int .i64 ws.cross, .int .u8 (ws.allowed : Nat)] ty)).drew).cell? ((⟨w.heap.size, 0, none⟩ : Addr).add j) = some u := lit_wish w ws ty
abbrev HeldB (B : Nat) (wr w1 : World) : Prop := Below B wr w1 ∧ (∀ b o, b < B → w1.cell? ⟨b, o, none⟩ = wr.cell? ⟨b, o, none⟩)
theorem heldB_of {B : Nat} {wr w1 : World} (h : Below B wr w1) : HeldB B wr w1 := ⟨h, (bcell h).1⟩
theorem heldB_drew (B : Nat) (wr : World) : HeldB B wr wr.drew := heldB_of (Below.refl _ _).drew
theorem heldB_alloc {B : Nat} {wr w1 : World} (hB : B ≤ wr.heap.size) (h : HeldB B wr w1) (o : Obj) : HeldB B wr (w1.alloc o) := heldB_of (h.1.alloc (Nat.le_trans hB h.1.size) o)
theorem heldB_grown {B : Nat} {wr w1 w2 : World} {row : Option Nat} (hB : B ≤ wr.heap.size) (h : HeldB B wr w1) (hg : w1.grownBy w2 row) (hr : ∀ k, row = some k → B ≤ k) : HeldB B wr w2 := heldB_of (h.1.grown hg (Nat.le_trans hB h.1.size) hr)
def WithPost (cA : Option Addr) (cc : Nat) (pA : Option Addr) (pc : Nat) (uA : Option Addr) (uc : Nat) (t : Task) (w : World) (e : Ending) (w' : World) : Prop :=
  ∃ A c, e = .returned (taskVal cA cc pA pc A c uA uc t) ∧ TaskRd w' cA cc pA pc A c uA uc t ∧ Below w.heap.size w w'

set_option maxRecDepth 100000 in
set_option maxHeartbeats 2000000 in
theorem with_any {w : World} {cA : Option Addr} {cc : Nat} {pA : Option Addr} {pc : Nat} {wA : Option Addr} {wc : Nat} {uA : Option Addr} {uc : Nat} {t : Task} (h : TaskRd w cA cc pA pc wA wc uA uc t)
    {lA : Option Addr} {lc : Nat} {l : List Nat} (hl : IntsRd w lA lc (natInts l)) (hlt : ∀ i ∈ l, i < t.wishes.length) (h100 : l.length ≤ 100) :
    Calls Tryd.prog 18 #[taskVal cA cc pA pc wA wc uA uc t, .slice lA l.length lc] w (WithPost cA cc pA pc uA uc (withT t l) w) := by
  have hll := hl.len
  have hlm := hl.cap
  have hwl := h.wlen
  have hwm := h.wcap
  unfold maxLen at hlm hwm
  obtain ⟨i0, hi0, hz0, hz1, hz2⟩ := info_parts info_wish
  have HLT := Lib.hid hlt
  clear hlt
  rw [natInts_length] at hll
  have hT1 := h.below (below_box2 w (.cells #[.int .i64 t.cloth.threads, .slice cA t.cloth.crosses.length cc, .slice pA t.cloth.pins.length pc, .slice wA t.wishes.length wc, .slice uA t.unlike.length uc,
      .int .i64 t.s0, .int .i64 t.s1, .int .i64 t.s2, .int .i64 t.s3, .int .i64 t.s4, .int .i64 t.s5] 30) (.cells #[.int .i64 0, .slice none 0 0, .slice none 0 0, .slice none 0 0, .slice none 0 0, .int .i64 0, .int .i64 0, .int .i64 0, .int .i64 0, .int .i64 0, .int .i64 0] 30))
  have hL1 := hl.below (below_box2 w (.cells #[.int .i64 t.cloth.threads, .slice cA t.cloth.crosses.length cc, .slice pA t.cloth.pins.length pc, .slice wA t.wishes.length wc, .slice uA t.unlike.length uc,
      .int .i64 t.s0, .int .i64 t.s1, .int .i64 t.s2, .int .i64 t.s3, .int .i64 t.s4, .int .i64 t.s5] 30) (.cells #[.int .i64 0, .slice none 0 0, .slice none 0 0, .slice none 0 0, .slice none 0 0, .int .i64 0, .int .i64 0, .int .i64 0, .int .i64 0, .int .i64 0, .int .i64 0] 30))
  go_enter Tryd.func18, Tryd.ntmps18
  go_wp2
  go_loopw [5, 6] (fun v i wr => ∃ (k : Nat) (A : Option Addr) (c : Nat), k ≤ l.length ∧ i = .int .i64 k ∧ v = .slice A k c ∧ wr.ownsRow (w.heap.size + 2) 43 2 (.slice A k c) k (wishCells (withT t (l.take k)).wishes) ∧
    Below (w.heap.size + 1 + 1) ((w.alloc (.cells #[.int .i64 t.cloth.threads, .slice cA t.cloth.crosses.length cc, .slice pA t.cloth.pins.length pc, .slice wA t.wishes.length wc, .slice uA t.unlike.length uc,
      .int .i64 t.s0, .int .i64 t.s1, .int .i64 t.s2, .int .i64 t.s3, .int .i64 t.s4, .int .i64 t.s5] 30)).alloc (.cells #[.int .i64 0, .slice none 0 0, .slice none 0 0, .slice none 0 0, .slice none 0 0, .int .i64 0, .int .i64 0, .int .i64 0, .int .i64 0, .int .i64 0, .int .i64 0] 30)) wr) (fun _ i _ => l.length - (intOf i).toNat)
  case atStart => exact ⟨0, none, 0, by omega, rfl, rfl, World.ownsRow_nil _ _ _ _, Below.refl _ _⟩
  case round =>
    obtain ⟨k, A, c, hk, rfl, rfl, hown, hbl⟩ := hrel
    obtain ⟨hcell, hfro⟩ := bcell hbl
    have hszr : w.heap.size + 1 < wr.heap.size := by have := hbl.size; simp at this; omega
    by_cases hlt : k < l.length
    · obtain ⟨p, po, rfl, hp, h0⟩ := hL1.rows.int (i := k) (by rw [natInts_length]; exact hlt)
      rw [natInts_get hlt] at h0
      have hlk := HLT.out _ (List.getElem_mem hlt)
      obtain ⟨q, qo, rfl, hq, h1, h2⟩ := hT1.wishes.wish hlk
      simp only [World.size_alloc] at hp hq
      have h0 := (hcell p _ hp).trans h0
      have h1 := (hcell q _ hq).trans h1
      have h2 := (hcell q _ hq).trans h2
      have hx3 := (hcell w.heap.size 3 (by omega)).trans (by simp : _ = some (.slice (some ⟨q, qo, none⟩) t.wishes.length wc))
      have hpr : p < wr.heap.size := by omega
      have hqr : q < wr.heap.size := by omega
      have htk := withT_take t l k hlt
      have hgd : t.wishes.getD l[k] default = t.wishes[l[k]] := by simp [hlk]
      rw [hgd] at htk
      have HTK := Lib.hid htk
      have HOWN := Lib.hid hown
      clear htk hgd hown
      have hxr : w.heap.size < wr.heap.size := by omega
      generalize hj : l[k] = j at *
      generalize hws : t.wishes[j] = ws at *
      have hji : (j : Int) < (t.wishes.length : Int) := by omega
      have hwB : w.heap.size < w.heap.size + 1 + 1 := by omega
      clear hj hws hcell
      go_wp2
      go_region_held3 (fun w' => Below (w.heap.size + 1 + 1) wr w' ∧ (∀ b o, b < w.heap.size + 1 + 1 → w'.cell? ⟨b, o, none⟩ = wr.cell? ⟨b, o, none⟩)) (first | exact heldB_drew _ _ | assumption | exact heldB_of ((Below.refl _ _).alloc (by omega) _).drew)
        (first
          | (refine step_append_wish rfl (.tmp 13) (.tmp 22) 26 43 i0 rfl Tryd.underlying26 hi0 hz0 hz1 hz2 (w.heap.size + 2) (.slice A k c) k _ rfl (owns_alloc_drew HOWN.out _) ⟨wr.heap.size, 0, none⟩ ws rfl (lit_wish_drew _ ws _) ?hmx ?hbs ?_
             case hmx => omega
             case hbs => simp; omega
             intro g c2 w1 hown1 hgrow hge
             have hq5 := heldB_grown (B := w.heap.size + 1 + 1) (wr := wr) (by omega) (by assumption) hgrow hge))
      have hne : Hid (w1.ownsRow (w.heap.size + 2) 43 2 (.slice (some ⟨g, 0, none⟩) (k + 1) c2) (k + 1) (wishCells (withT t (l.take (k + 1))).wishes)) := by
        rw [HTK.out, wishCells_append, show wishCells [ws] = ws.cells by simp [wishCells]]
        exact hown1
      have hB5 := hbl.trans hq5.1
      clear hown1 hgrow hge hq5
      go_wp2
      go_roundw
      case rel => exact ⟨k + 1, some ⟨g, 0, none⟩, c2, by omega, by go_num, rfl, hne.out, hB5⟩
      case measure => simp [intOf]; omega
    · obtain rfl : k = l.length := by omega
      rw [List.take_length] at hown
      have hb3 := (hcell w.heap.size 3 (by omega)).trans (by simp : _ = some (.slice wA t.wishes.length wc))
      have hwB : w.heap.size < w.heap.size + 1 + 1 := by omega
      have HOWN := Lib.hid hown
      have hBwr : Below w.heap.size w wr := (below_box2 w _ _).trans (hbl.mono (by omega))
      have z0 := (hcell (w.heap.size + 1) 0 (by omega)).trans (by go_simp : _ = some (.int .i64 0))
      have z1 := (hcell (w.heap.size + 1) 1 (by omega)).trans (by go_simp : _ = some (.slice none 0 0))
      have z2 := (hcell (w.heap.size + 1) 2 (by omega)).trans (by go_simp : _ = some (.slice none 0 0))
      have z3 := (hcell (w.heap.size + 1) 3 (by omega)).trans (by go_simp : _ = some (.slice none 0 0))
      have z4 := (hcell (w.heap.size + 1) 4 (by omega)).trans (by go_simp : _ = some (.slice none 0 0))
      have z5 := (hcell (w.heap.size + 1) 5 (by omega)).trans (by go_simp : _ = some (.int .i64 0))
      have z6 := (hcell (w.heap.size + 1) 6 (by omega)).trans (by go_simp : _ = some (.int .i64 0))
      have z7 := (hcell (w.heap.size + 1) 7 (by omega)).trans (by go_simp : _ = some (.int .i64 0))
      have z8 := (hcell (w.heap.size + 1) 8 (by omega)).trans (by go_simp : _ = some (.int .i64 0))
      have z9 := (hcell (w.heap.size + 1) 9 (by omega)).trans (by go_simp : _ = some (.int .i64 0))
      have z10 := (hcell (w.heap.size + 1) 10 (by omega)).trans (by go_simp : _ = some (.int .i64 0))
      clear hown hlt
      go_wp2
      generalize hW' : (((((((((((wr.setCell ⟨w.heap.size, 3, none⟩ (.slice A l.length c)).setCell ⟨w.heap.size + 1, 0, none⟩ (.int .i64 t.cloth.threads)).setCell ⟨w.heap.size + 1, 1, none⟩ (.slice cA t.cloth.crosses.length cc)).setCell ⟨w.heap.size + 1, 2, none⟩ (.slice pA t.cloth.pins.length pc)).setCell ⟨w.heap.size + 1, 3, none⟩ (.slice A l.length c)).setCell ⟨w.heap.size + 1, 4, none⟩ (.slice uA t.unlike.length uc)).setCell ⟨w.heap.size + 1, 5, none⟩ (.int .i64 t.s0)).setCell ⟨w.heap.size + 1, 6, none⟩ (.int .i64 t.s1)).setCell ⟨w.heap.size + 1, 7, none⟩ (.int .i64 t.s2)).setCell ⟨w.heap.size + 1, 8, none⟩ (.int .i64 t.s3)).setCell ⟨w.heap.size + 1, 9, none⟩ (.int .i64 t.s4)).setCell ⟨w.heap.size + 1, 10, none⟩ (.int .i64 t.s5) = W'
      have y0 : W'.cell? ⟨w.heap.size + 1, 0, none⟩ = some (.int .i64 t.cloth.threads) := by rw [← hW']; clear hW'; go_simp
      have y1 : W'.cell? ⟨w.heap.size + 1, 1, none⟩ = some (.slice cA t.cloth.crosses.length cc) := by rw [← hW']; clear hW'; go_simp
      have y2 : W'.cell? ⟨w.heap.size + 1, 2, none⟩ = some (.slice pA t.cloth.pins.length pc) := by rw [← hW']; clear hW'; go_simp
      have y3 : W'.cell? ⟨w.heap.size + 1, 3, none⟩ = some (.slice A l.length c) := by rw [← hW']; clear hW'; go_simp
      have y4 : W'.cell? ⟨w.heap.size + 1, 4, none⟩ = some (.slice uA t.unlike.length uc) := by rw [← hW']; clear hW'; go_simp
      have y5 : W'.cell? ⟨w.heap.size + 1, 5, none⟩ = some (.int .i64 t.s0) := by rw [← hW']; clear hW'; go_simp
      have y6 : W'.cell? ⟨w.heap.size + 1, 6, none⟩ = some (.int .i64 t.s1) := by rw [← hW']; clear hW'; go_simp
      have y7 : W'.cell? ⟨w.heap.size + 1, 7, none⟩ = some (.int .i64 t.s2) := by rw [← hW']; clear hW'; go_simp
      have y8 : W'.cell? ⟨w.heap.size + 1, 8, none⟩ = some (.int .i64 t.s3) := by rw [← hW']; clear hW'; go_simp
      have y9 : W'.cell? ⟨w.heap.size + 1, 9, none⟩ = some (.int .i64 t.s4) := by rw [← hW']; clear hW'; go_simp
      have y10 : W'.cell? ⟨w.heap.size + 1, 10, none⟩ = some (.int .i64 t.s5) := by rw [← hW']; clear hW'; go_simp
      have hk : ∀ k, k ≠ w.heap.size → k ≠ w.heap.size + 1 → W'.heap[k]? = wr.heap[k]? := fun k h1 h2 => by
        rw [← hW']
        exact (Below.heap_setCell _ _ _ _ (by simpa using h2)).trans ((Below.heap_setCell _ _ _ _ (by simpa using h2)).trans ((Below.heap_setCell _ _ _ _ (by simpa using h2)).trans ((Below.heap_setCell _ _ _ _ (by simpa using h2)).trans ((Below.heap_setCell _ _ _ _ (by simpa using h2)).trans ((Below.heap_setCell _ _ _ _ (by simpa using h2)).trans ((Below.heap_setCell _ _ _ _ (by simpa using h2)).trans ((Below.heap_setCell _ _ _ _ (by simpa using h2)).trans ((Below.heap_setCell _ _ _ _ (by simpa using h2)).trans ((Below.heap_setCell _ _ _ _ (by simpa using h2)).trans ((Below.heap_setCell _ _ _ _ (by simpa using h2)).trans ((Below.heap_setCell _ _ _ _ (by simpa using h1)))))))))))))
      have hB : Below w.heap.size w W' := by
        rw [← hW']
        exact ((((((((((((hBwr.setCell (p := ⟨w.heap.size, 3, none⟩) (by simp) _).setCell (p := ⟨w.heap.size + 1, 0, none⟩) (by simp) _).setCell (p := ⟨w.heap.size + 1, 1, none⟩) (by simp) _).setCell (p := ⟨w.heap.size + 1, 2, none⟩) (by simp) _).setCell (p := ⟨w.heap.size + 1, 3, none⟩) (by simp) _).setCell (p := ⟨w.heap.size + 1, 4, none⟩) (by simp) _).setCell (p := ⟨w.heap.size + 1, 5, none⟩) (by simp) _).setCell (p := ⟨w.heap.size + 1, 6, none⟩) (by simp) _).setCell (p := ⟨w.heap.size + 1, 7, none⟩) (by simp) _).setCell (p := ⟨w.heap.size + 1, 8, none⟩) (by simp) _).setCell (p := ⟨w.heap.size + 1, 9, none⟩) (by simp) _).setCell (p := ⟨w.heap.size + 1, 10, none⟩) (by simp) _)
      have hown2 := owns_keep HOWN.out (w' := W') fun g hg => hk g (by have := (HOWN.out.lt g hg).1; omega) (by have := (HOWN.out.lt g hg).1; omega)
      have hwln : (withT t l).wishes.length = l.length := by simp [withT]
      obtain ⟨r1, r2, r3⟩ := rows_of_owns hown2 hwln.symm
      have hT' := h.below hB
      clear hW' z0 z1 z2 z3 z4 z5 z6 z7 z8 z9 z10
      refine bodyPost_ret (v := taskVal cA cc pA pc A c uA uc (withT t l)) (by simp [results, Tryd.f18, go_sem, y0, y1, y2, y3, y4, y5, y6, y7, y8, y9, y10, hwln]; exact ⟨rfl, rfl, rfl, rfl, rfl, rfl, rfl, rfl, rfl, rfl⟩) rfl ⟨A, c, rfl, ⟨hT'.cloth, r1, r2, r3, hT'.unlike, hT'.ulen, hT'.ucap, ?_⟩, hB⟩
      exact ⟨h.wf.cloth, fun x hx => by
        simp only [withT, List.mem_map] at hx
        obtain ⟨i, hi, rfl⟩ := hx
        exact h.wf.wishes _ (getD_mem (HLT.out i hi)), h.wf.unlike, h.wf.s0, h.wf.s1, h.wf.s2, h.wf.s3, h.wf.s4, h.wf.s5⟩
end Go.Proofs.YtegbbkmppphddaaDoor
