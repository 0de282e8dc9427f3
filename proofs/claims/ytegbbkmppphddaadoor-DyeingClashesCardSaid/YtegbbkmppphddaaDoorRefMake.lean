/- The reference's Make at the example. -/
import Derived.Test.YtegbbkmppphddaaDoorMkMem
set_option linter.unusedVariables false
set_option linter.unusedSimpArgs false
namespace Go.Proofs.YtegbbkmppphddaaDoor
open Go.RowKit

@[reducible] def exW : ByteArray := ⟨#[67, 84, 80, 67]⟩
def exSheet : Sheet := ⟨2, [⟨1, 0, exW⟩]⟩
theorem exSheet_ok : sheetB exSheet = 0 := by decide +kernel
def MakePost (w : World) (e : Ending) (w' : World) : Prop := ∃ cA cc pA pc, e = .returned (.tuple #[clothVal cA cc pA pc exCloth, .int .i64 0]) ∧ ClothRd w' cA cc pA pc exCloth ∧ (∀ b off, cA = some ⟨b, off, none⟩ → w.heap.size ≤ b) ∧ (∀ b off, pA = some ⟨b, off, none⟩ → w.heap.size ≤ b) ∧ Below w.heap.size w w'
theorem exW_get (k : Nat) (hk : k < 4) : (exW[k]'hk) = exWord.getD k 0 ∧ wordB (exW.extract k (k + 1)) = 0 ∧ crossW (exW.extract k (k + 1)).data.toList = crossB (exWord.getD k 0) := by
  revert hk
  have : k = 0 ∨ k = 1 ∨ k = 2 ∨ k = 3 ∨ 4 ≤ k := by omega
  rcases this with rfl | rfl | rfl | rfl | h
  · decide +kernel
  · decide +kernel
  · decide +kernel
  · decide +kernel
  · intro hk; omega

theorem exCloth_wf : exCloth.wf := by
  refine ⟨by unfold I64; decide, ?_, ?_⟩
  · intro x hx
    simp only [exCloth, List.mem_cons, List.not_mem_nil, or_false] at hx
    rcases hx with rfl | rfl | rfl | rfl <;> unfold Cross.wf I64 <;> decide
  · intro x hx
    simp only [exCloth, List.mem_cons, List.not_mem_nil, or_false] at hx
    rcases hx with rfl
    unfold Pin.wf I64; decide
theorem exMk_sizes : ∀ k, k ≤ 4 → (exMk k).pins.length ≤ 10 ∧ (exMk k).crosses.length ≤ 10 := by
  intro k hk
  have : k = 0 ∨ k = 1 ∨ k = 2 ∨ k = 3 ∨ k = 4 := by omega
  rcases this with rfl | rfl | rfl | rfl | rfl <;> decide
theorem exMk2_sizes : ∀ k, k < 4 → ∀ m, m ≤ 2 → (exMk2 k m).pins.length ≤ 10 ∧ (exMk2 k m).crosses.length ≤ 10 := by
  intro k hk m hm
  have : k = 0 ∨ k = 1 ∨ k = 2 ∨ k = 3 := by omega
  have : m = 0 ∨ m = 1 ∨ m = 2 := by omega
  rcases ‹k = 0 ∨ k = 1 ∨ k = 2 ∨ k = 3› with rfl | rfl | rfl | rfl <;> rcases ‹m = 0 ∨ m = 1 ∨ m = 2› with rfl | rfl | rfl <;> decide
/-- What the reads of a pin need. -/
def PinS (CB g m : Nat) (A : Option Addr) (c : Nat) (x y : Int) (w : World) : Prop := w.cell? ⟨CB, 2, none⟩ = some (.slice A m c) ∧ w.cell? ⟨g, 1, none⟩ = some (.int .i64 x) ∧ w.cell? ⟨g, 2, none⟩ = some (.int .i64 y)
theorem PinS.keep {CB g m : Nat} {A : Option Addr} {c : Nat} {x y : Int} {w w' : World} (h : PinS CB g m A c x y w) (h1 : w'.heap[CB]? = w.heap[CB]?) (h2 : w'.heap[g]? = w.heap[g]?) : PinS CB g m A c x y w' :=
  ⟨(World.cell?_of_block (a := ⟨CB, 2, none⟩) h1).trans h.1, (World.cell?_of_block (a := ⟨g, 1, none⟩) h2).trans h.2.1, (World.cell?_of_block (a := ⟨g, 2, none⟩) h2).trans h.2.2⟩
theorem info_pin : (Tryd.prog.info? 94).map (fun i => (i.zero, i.size, i.bytes)) = some (some (.agg #[.int .i64 0, .int .i64 0, .int .i64 0, .int .i64 0]), 4, 32) := by kernel_rfl
theorem info_cross : (Tryd.prog.info? 91).map (fun i => (i.zero, i.size, i.bytes)) = some (some (.agg #[.int .i64 0, .int .i64 0, .int .i64 0, .int .i64 0]), 4, 32) := by kernel_rfl
theorem lit_four (w : World) (a b c d : Value) (ty : TypeId) : ∀ j u, ([a, b, c, d] : List Value)[j]? = some u → (w.alloc (.cells #[a, b, c, d] ty)).cell? ((⟨w.heap.size, 0, none⟩ : Addr).add j) = some u := by
  intro j u h
  have hj : j < 4 := by have := (List.getElem?_eq_some_iff.1 h).1; simpa using this
  have hj' : j = 0 ∨ j = 1 ∨ j = 2 ∨ j = 3 := by omega
  rcases hj' with rfl | rfl | rfl | rfl
  all_goals
    simp at h
    subst h
    simp [Addr.add]
theorem lit_four2 (w : World) (o : Obj) (a b c d : Value) (ty : TypeId) : ∀ j u, ([a, b, c, d] : List Value)[j]? = some u → ((w.alloc o).alloc (.cells #[a, b, c, d] ty)).drew.cell? ((⟨w.heap.size + 1, 0, none⟩ : Addr).add j) = some u := by
  intro j u h
  have := lit_four (w.alloc o) a b c d ty j u h
  rw [World.size_alloc] at this
  exact this

theorem IntsRd.keepB {w w' : World} {lb lo c : Nat} {L : List Int} (h : IntsRd w (some ⟨lb, lo, none⟩) c L) (hb : w'.heap[lb]? = w.heap[lb]?) (hs : w.heap.size ≤ w'.heap.size) : IntsRd w' (some ⟨lb, lo, none⟩) c L := by
  refine ⟨?_, h.len, h.nil, h.cap, h.wf⟩
  rcases h.rows with h1 | ⟨b, o, e, h2, h3⟩
  · exact .inl h1
  · obtain ⟨e1, e2, -⟩ := Addr.mk.inj (Option.some.inj e)
    subst e1 e2
    exact .inr ⟨lb, lo, rfl, Nat.lt_of_lt_of_le h2 hs, fun i r hr j v hv => (World.cell?_of_block (a := ⟨lb, _, none⟩) hb).trans (h3 i r hr j v hv)⟩

set_option maxRecDepth 100000 in
set_option maxHeartbeats 8000000 in
theorem make_ex {w : World} {sA : Option Addr} {sc : Nat} (h : SheetRd w sA sc exSheet) :
    Calls Tryd.prog 42 #[.agg #[.int .i64 2, .slice sA 1 sc]] w (MakePost w) := by
  have hl := h.len
  have hc := h.cap
  unfold maxLen at hc
  obtain ⟨sb, so, rfl, hsb, s0, s1, s2⟩ := h.rows.work (i := 0) (by decide)
  have hc1 : 1 ≤ sc := hl
  go_enter Tryd.func42, Tryd.ntmps42
  go_wp2_with fail
  have hB1 := below_box2 w (.cells #[.int .i64 2, .slice (some ⟨sb, so, none⟩) 1 sc] 77) (.cells #[.int .i64 0, .slice none 0 0, .slice none 0 0] 25)
  have hck := refsheet_any (h.below hB1)
  rw [exSheet_ok] at hck
  refine (show Calls Tryd.prog 58 #[.agg #[.int .i64 2, .slice (some ⟨sb, so, none⟩) 1 sc]] _ _ from hck).mono ?_
  clear hck
  rintro e w1 ⟨rfl, hb1⟩
  simp only [World.size_alloc] at hb1
  obtain ⟨hcell, hfro⟩ := bcell hb1
  have hs1 : w.heap.size + 1 < w1.heap.size := by have := hb1.size; simp at this; omega
  have x0 := (hcell w.heap.size 0 (by omega)).trans (by simp : _ = some (.int .i64 2))
  have x1 := (hcell w.heap.size 1 (by omega)).trans (by simp : _ = some (.slice (some ⟨sb, so, none⟩) 1 sc))
  have hsb2 : sb < w.heap.size + 1 + 1 := by omega
  have s0 := (hcell sb (so + 0 * 3) hsb2).trans ((hB1.cell (p := ⟨sb, so + 0 * 3, none⟩) hsb).trans s0)
  have s1 := (hcell sb (so + 0 * 3 + 1) hsb2).trans ((hB1.cell (p := ⟨sb, so + 0 * 3 + 1, none⟩) hsb).trans s1)
  have s2 := (hcell sb (so + 0 * 3 + 2) hsb2).trans ((hB1.cell (p := ⟨sb, so + 0 * 3 + 2, none⟩) hsb).trans s2)
  have hBw : Below w.heap.size w w1 := hB1.trans (hb1.mono (by omega))
  simp only [Nat.zero_mul, Nat.add_zero] at s0 s1 s2
  have s0 : w1.cell? ⟨sb, so, none⟩ = some (.int .i64 1) := s0
  have s1 : w1.cell? ⟨sb, so + 1, none⟩ = some (.int .i64 0) := s1
  have s2 : w1.cell? ⟨sb, so + 2, none⟩ = some (.string exW) := s2
  have hr0 := (hcell (w.heap.size + 1) 0 (by omega)).trans (by simp : _ = some (.int .i64 0))
  have hr1 := (hcell (w.heap.size + 1) 1 (by omega)).trans (by simp : _ = some (.slice none 0 0))
  have hr2 := (hcell (w.heap.size + 1) 2 (by omega)).trans (by simp : _ = some (.slice none 0 0))
  have hf0 : ∀ o, w1.frozen? ⟨w.heap.size + 1, o, none⟩ = false := fun o => (hfro (w.heap.size + 1) o (by omega)).trans (by simp)
  clear hcell hfro hB1
  go_wp2_with fail
  refine (line_any _ 4 (by omega)).mono ?_
  rintro e w2 ⟨A, gc, rfl, hown, hb2⟩
  obtain ⟨g, cap', e, hg1, hg2⟩ := hown.form (by omega)
  obtain ⟨e1, -, -⟩ := Value.slice.inj e
  subst e1
  simp only [World.size_alloc] at hb2 hown hg1
  have hb12 : Below w1.heap.size w1 w2 := (below_box _).trans (hb2.mono (by omega))
  have hs2 : w1.heap.size < w2.heap.size := by have := hb2.size; simp at this; omega
  have x0 := (hb12.cell (p := ⟨w.heap.size, 0, none⟩) (by show w.heap.size < _; omega)).trans x0
  have x1 := (hb12.cell (p := ⟨w.heap.size, 1, none⟩) (by show w.heap.size < _; omega)).trans x1
  have hsb3 : sb < w1.heap.size := by omega
  have s0 := (hb12.cell (p := ⟨sb, so, none⟩) hsb3).trans s0
  have s1 := (hb12.cell (p := ⟨sb, so + 1, none⟩) hsb3).trans s1
  have s2 := (hb12.cell (p := ⟨sb, so + 2, none⟩) hsb3).trans s2
  have y0 := (hb2.cell (p := ⟨w1.heap.size, 0, none⟩) (by show w1.heap.size < _; omega)).trans (by simp : _ = some (.int .i64 4))
  have y1 := (hb2.cell (p := ⟨w1.heap.size, 1, none⟩) (by show w1.heap.size < _; omega)).trans (by simp : _ = some (.slice none 0 0))
  have y2 := (hb2.cell (p := ⟨w1.heap.size, 2, none⟩) (by show w1.heap.size < _; omega)).trans (by simp : _ = some (.slice none 0 0))
  have yf : ∀ o, w2.frozen? ⟨w1.heap.size, o, none⟩ = false := fun o => (hb2.frozen (p := ⟨w1.heap.size, o, none⟩) (by show w1.heap.size < _; omega)).trans (by simp)
  have hMk0 : MkAt (w2.alloc (.cells #[.int .i64 1, .int .i64 0, .string exW] 74)) (w2.alloc (.cells #[.int .i64 1, .int .i64 0, .string exW] 74)) w1.heap.size g gc exStart none 0 none 0 := by
    have hB := below_box (w := w2) (.cells #[.int .i64 1, .int .i64 0, .string exW] 74)
    refine ⟨(hB.cell (p := ⟨w1.heap.size, 0, none⟩) hs2).trans y0, (hB.cell (p := ⟨w1.heap.size, 1, none⟩) hs2).trans y1, (hB.cell (p := ⟨w1.heap.size, 2, none⟩) hs2).trans y2, fun o => (hB.frozen (p := ⟨w1.heap.size, o, none⟩) hs2).trans (yf o),
      World.ownsRow_nil _ _ _ _, World.ownsRow_nil _ _ _ _, fun k hk => by simp [Value.ownBlock] at hk, ?_, rfl, Nat.le_refl _, fun _ _ _ _ => rfl, rfl, rfl, rfl⟩
    obtain ⟨q1, q2⟩ := hown.alloc (.cells #[.int .i64 1, .int .i64 0, .string exW] 74)
    refine ⟨q1, ?_⟩
    rcases q2 with ⟨q, -⟩ | ⟨g', cp, cur, q, -, rest⟩
    · simp at q
    · exact .inr ⟨g', cp, cur, q, Nat.zero_le _, rest⟩
  have hgw : g < w2.heap.size := hg2
  have hCg : w1.heap.size ≠ g := by omega
  have HMK := Lib.hid hMk0
  clear hMk0 y0 y1 y2 yf hown hb2 e
  go_wp2_with fail
  refine wp_loop_rounds 2 ?_
  rw [rounds_succ]
  go_wp2_with fail
  have hB2 := below_box (w := w2) (.cells #[.int .i64 1, .int .i64 0, .string exW] 74)
  have v1 : (w2.alloc (.cells #[.int .i64 1, .int .i64 0, .string exW] 74)).cell? ⟨w2.heap.size, 1, none⟩ = some (.int .i64 0) := by simp
  have hsW : (w2.alloc (.cells #[.int .i64 1, .int .i64 0, .string exW] 74)).heap.size = w2.heap.size + 1 := by simp
  have bx1 := (hB2.cell (p := ⟨w.heap.size, 1, none⟩) (by show w.heap.size < _; omega)).trans x1
  have hr0 := (hB2.cell (p := ⟨w.heap.size + 1, 0, none⟩) (by show w.heap.size + 1 < _; omega)).trans ((hb12.cell (p := ⟨w.heap.size + 1, 0, none⟩) (by show w.heap.size + 1 < _; omega)).trans hr0)
  have hr1 := (hB2.cell (p := ⟨w.heap.size + 1, 1, none⟩) (by show w.heap.size + 1 < _; omega)).trans ((hb12.cell (p := ⟨w.heap.size + 1, 1, none⟩) (by show w.heap.size + 1 < _; omega)).trans hr1)
  have hr2 := (hB2.cell (p := ⟨w.heap.size + 1, 2, none⟩) (by show w.heap.size + 1 < _; omega)).trans ((hb12.cell (p := ⟨w.heap.size + 1, 2, none⟩) (by show w.heap.size + 1 < _; omega)).trans hr2)
  have hf0 : ∀ o, (w2.alloc (.cells #[.int .i64 1, .int .i64 0, .string exW] 74)).frozen? ⟨w.heap.size + 1, o, none⟩ = false := fun o => (hB2.frozen (p := ⟨w.heap.size + 1, o, none⟩) (by show w.heap.size + 1 < _; omega)).trans ((hb12.frozen (p := ⟨w.heap.size + 1, o, none⟩) (by show w.heap.size + 1 < _; omega)).trans (hf0 o))
  have hBW : Below w.heap.size w (w2.alloc (.cells #[.int .i64 1, .int .i64 0, .string exW] 74)) := (hBw.trans (hb12.mono (by omega))).trans (hB2.mono (by omega))
  generalize (w2.alloc (.cells #[.int .i64 1, .int .i64 0, .string exW] 74)) = W2 at *
  clear x0 x1 s0 s1 s2 hB2 hb12 hBw hb1
  have hCW : w1.heap.size < W2.heap.size := by omega
  have hgW : g < W2.heap.size := by omega
  go_loopw [10] (fun i wr => ∃ (k : Nat) (cA : Option Addr) (cc : Nat) (pA : Option Addr) (pc : Nat), k ≤ 4 ∧ i = .int .i64 k ∧ MkAt W2 wr w1.heap.size g gc (exMk k) cA cc pA pc) (fun i _ => 4 - (intOf i).toNat)
  case atStart => exact ⟨0, none, 0, none, 0, by omega, rfl, HMK.out⟩
  case round =>
    clear HMK
    obtain ⟨k, cA, cc, pA, pc, hk4, rfl, hM⟩ := hrel
    have hszr := hM.size
    by_cases hk : k < 4
    · obtain ⟨hex, hw0, hcw⟩ := exW_get k hk
      have at1 := (World.cell?_of_block (a := ⟨w2.heap.size, 1, none⟩) (hM.keep w2.heap.size (by omega) (by omega) (by omega))).trans v1
      have HEX := Lib.hid hex
      have HW0 := Lib.hid hw0
      have HCW := Lib.hid hcw
      have HM := Lib.hid hM
      have hki : (k : Int) < 4 := by omega
      clear hex hw0 hcw hM
      by_cases hP : exW[k]'hk = 80
      · have heb : (((exW[k]'hk).toNat : Int) == 80) = true := by simp [hP]
        have hc80 : exWord.getD k 0 = 80 := by rw [← HEX.out]; exact hP
        have HN : Hid (exMk (k + 1) = mkPin (exMk k)) := by
          have := exMk_succ hk
          rw [hc80] at this
          rw [this]
          unfold exMk2
          rw [hc80, if_pos rfl]
          rfl
        have HL := Lib.hid (show crossW (exW.extract k (k + 1)).data.toList = [] by rw [HCW.out, hc80]; decide)
        have hw2 : IntKind.i64.wrap 2 = 2 := by decide
        clear hc80 hP
        generalize hss : exMk k = s at *
        have hps := (exMk_sizes k (by omega)).1
        rw [hss] at hps
        have HSS := Lib.hid hss
        clear hss
        have hS0 : PinS w1.heap.size g s.pins.length pA pc (s.at_.getD 1 0) (s.at_.getD 2 0) wr.drew := ⟨HM.out.c2, HM.out.at_cell (by omega), HM.out.at_cell (by omega)⟩
        have hfz := HM.out.fr 2
        have hat1 : Hid (∀ o v, PinS w1.heap.size g s.pins.length pA pc (s.at_.getD 1 0) (s.at_.getD 2 0) ((wr.alloc (.cells #[.int .i64 0, .int .i64 1, .int .i64 (s.at_.getD 1 0), .int .i64 (s.at_.getD 2 0)] o)).drew) ∨ v = 0) := fun o v => .inl (hS0.keep (Below.heap_alloc wr _ _ (by omega)) (Below.heap_alloc wr _ _ (by omega)))
        have hMP : Hid (mkPin s = { s with pins := s.pins ++ [⟨0, 1, s.at_.getD 1 0, s.at_.getD 2 0⟩] }) := rfl
        generalize s.at_.getD 1 0 = a1 at *
        generalize s.at_.getD 2 0 = a2 at *
        have hcr := fun w => refCrossings_any (w := w) (exW.extract k (k + 1)) HW0.out
        simp only [HL.out] at hcr
        have HCR := Lib.hid hcr
        clear hcr
        obtain ⟨i0, hi0, hz0, hz1, hz2⟩ := info_parts info_pin
        go_wp2
        refine wp_region_noPanic ?_
        refine wp_region_L (S := (PinS w1.heap.size g s.pins.length pA pc a1 a2)) (L := 17) (by kernel_rfl) ?_
        refine wpAnyL_take 20 (i := 0) (oi := { dst := some 61, op := Op.fieldAddr 25 (Operand.tmp 5) 2, type := 0, pos := "ref.go:36", after := #[], guard := none }) (v := ?_) rfl (by kernel_rfl) (by kernel_rfl) (by kernel_rfl) (by kernel_rfl) (by kernel_rfl) (fun _ _ _ h => h) (.inl ⟨by rfl, ?_⟩) hS0 ?_
        rotate_left
        · intro w hSw; unfold PinS at hSw; (try dsimp only at hSw); go_simp; try (with_reducible rfl)
        try simp only [Act.put, List.setIfInBounds_toArray, List.set_cons_zero, List.set_cons_succ]
        refine wpAnyL_take 20 (i := 1) (oi := { dst := some 62, op := Op.load 23 (Operand.tmp 61), type := 23, pos := "ref.go:36", after := #[{ on := 0, ground := Ground.data }], guard := none }) (v := ?_) rfl (by kernel_rfl) (by kernel_rfl) (by kernel_rfl) (by kernel_rfl) (by kernel_rfl) (fun _ _ _ h => h) (.inl ⟨by rfl, ?_⟩) hS0 ?_
        rotate_left
        · intro w hSw; unfold PinS at hSw; (try dsimp only at hSw); go_simp; try (with_reducible rfl)
        try simp only [Act.put, List.setIfInBounds_toArray, List.set_cons_zero, List.set_cons_succ]
        refine wpAnyL_take 20 (i := 2) (oi := { dst := some 63, op := Op.move (Operand.tmp 7), type := 3, pos := "ref.go:36", after := #[], guard := none }) (v := ?_) rfl (by kernel_rfl) (by kernel_rfl) (by kernel_rfl) (by kernel_rfl) (by kernel_rfl) (fun _ _ _ h => h) (.inl ⟨by rfl, ?_⟩) hS0 ?_
        rotate_left
        · intro w hSw; unfold PinS at hSw; (try dsimp only at hSw); go_simp; try (with_reducible rfl)
        try simp only [Act.put, List.setIfInBounds_toArray, List.set_cons_zero, List.set_cons_succ]
        refine wpAnyL_take 20 (i := 3) (oi := { dst := some 64, op := Op.move (Operand.tmp 11), type := 3, pos := "ref.go:36", after := #[], guard := none }) (v := ?_) rfl (by kernel_rfl) (by kernel_rfl) (by kernel_rfl) (by kernel_rfl) (by kernel_rfl) (fun _ _ _ h => h) (.inl ⟨by rfl, ?_⟩) hS0 ?_
        rotate_left
        · intro w hSw; unfold PinS at hSw; (try dsimp only at hSw); go_simp; try (with_reducible rfl)
        try simp only [Act.put, List.setIfInBounds_toArray, List.set_cons_zero, List.set_cons_succ]
        refine wpAnyL_take 20 (i := 4) (oi := { dst := some 65, op := Op.move (Operand.tmp 6), type := 33, pos := "ref.go:36", after := #[], guard := none }) (v := ?_) rfl (by kernel_rfl) (by kernel_rfl) (by kernel_rfl) (by kernel_rfl) (by kernel_rfl) (fun _ _ _ h => h) (.inl ⟨by rfl, ?_⟩) hS0 ?_
        rotate_left
        · intro w hSw; unfold PinS at hSw; (try dsimp only at hSw); go_simp; try (with_reducible rfl)
        try simp only [Act.put, List.setIfInBounds_toArray, List.set_cons_zero, List.set_cons_succ]
        refine wpAnyL_take 20 (i := 5) (oi := { dst := some 66, op := Op.move (Operand.tmp 11), type := 3, pos := "ref.go:36", after := #[], guard := none }) (v := ?_) rfl (by kernel_rfl) (by kernel_rfl) (by kernel_rfl) (by kernel_rfl) (by kernel_rfl) (fun _ _ _ h => h) (.inl ⟨by rfl, ?_⟩) hS0 ?_
        rotate_left
        · intro w hSw; unfold PinS at hSw; (try dsimp only at hSw); go_simp; try (with_reducible rfl)
        try simp only [Act.put, List.setIfInBounds_toArray, List.set_cons_zero, List.set_cons_succ]
        refine wpAnyL_take 20 (i := 6) (oi := { dst := some 67, op := Op.indexAddr 33 (Operand.tmp 65) (Operand.tmp 66), type := 0, pos := "ref.go:36", after := #[{ on := 4, ground := Ground.data }, { on := 5, ground := Ground.data }], guard := none }) (v := ?_) rfl (by kernel_rfl) (by kernel_rfl) (by kernel_rfl) (by kernel_rfl) (by kernel_rfl) (fun _ _ _ h => h) (.inl ⟨by rfl, ?_⟩) hS0 ?_
        rotate_left
        · intro w hSw; unfold PinS at hSw; (try dsimp only at hSw); go_simp; try (with_reducible rfl)
        try simp only [Act.put, List.setIfInBounds_toArray, List.set_cons_zero, List.set_cons_succ]
        refine wpAnyL_take 20 (i := 7) (oi := { dst := some 68, op := Op.load 3 (Operand.tmp 67), type := 3, pos := "ref.go:36", after := #[{ on := 6, ground := Ground.data }], guard := none }) (v := ?_) rfl (by kernel_rfl) (by kernel_rfl) (by kernel_rfl) (by kernel_rfl) (by kernel_rfl) (fun _ _ _ h => h) (.inl ⟨by rfl, ?_⟩) hS0 ?_
        rotate_left
        · intro w hSw; unfold PinS at hSw; (try dsimp only at hSw); go_simp; try (with_reducible rfl)
        try simp only [Act.put, List.setIfInBounds_toArray, List.set_cons_zero, List.set_cons_succ]
        refine wpAnyL_take 20 (i := 8) (oi := { dst := some 69, op := Op.move (Operand.tmp 6), type := 33, pos := "ref.go:36", after := #[], guard := none }) (v := ?_) rfl (by kernel_rfl) (by kernel_rfl) (by kernel_rfl) (by kernel_rfl) (by kernel_rfl) (fun _ _ _ h => h) (.inl ⟨by rfl, ?_⟩) hS0 ?_
        rotate_left
        · intro w hSw; unfold PinS at hSw; (try dsimp only at hSw); go_simp; try (with_reducible rfl)
        try simp only [Act.put, List.setIfInBounds_toArray, List.set_cons_zero, List.set_cons_succ]
        refine wpAnyL_take 20 (i := 9) (oi := { dst := some 70, op := Op.move (Operand.tmp 11), type := 3, pos := "ref.go:36", after := #[], guard := none }) (v := ?_) rfl (by kernel_rfl) (by kernel_rfl) (by kernel_rfl) (by kernel_rfl) (by kernel_rfl) (fun _ _ _ h => h) (.inl ⟨by rfl, ?_⟩) hS0 ?_
        rotate_left
        · intro w hSw; unfold PinS at hSw; (try dsimp only at hSw); go_simp; try (with_reducible rfl)
        try simp only [Act.put, List.setIfInBounds_toArray, List.set_cons_zero, List.set_cons_succ]
        refine wpAnyL_take 20 (i := 10) (oi := { dst := some 71, op := Op.binOp BinOp.add 3 (Operand.tmp 70) (Operand.const (Value.int IntKind.i64 1)) 3, type := 3, pos := "ref.go:36", after := #[{ on := 9, ground := Ground.data }], guard := none }) (v := ?_) rfl (by kernel_rfl) (by kernel_rfl) (by kernel_rfl) (by kernel_rfl) (by kernel_rfl) (fun _ _ _ h => h) (.inl ⟨by rfl, ?_⟩) hS0 ?_
        rotate_left
        · intro w hSw; unfold PinS at hSw; (try dsimp only at hSw); go_simp; try (with_reducible rfl)
        try simp only [Act.put, List.setIfInBounds_toArray, List.set_cons_zero, List.set_cons_succ]
        refine wpAnyL_take 20 (i := 11) (oi := { dst := some 72, op := Op.indexAddr 33 (Operand.tmp 69) (Operand.tmp 71), type := 0, pos := "ref.go:36", after := #[{ on := 8, ground := Ground.data }, { on := 10, ground := Ground.data }], guard := none }) (v := ?_) rfl (by kernel_rfl) (by kernel_rfl) (by kernel_rfl) (by kernel_rfl) (by kernel_rfl) (fun _ _ _ h => h) (.inl ⟨by rfl, ?_⟩) hS0 ?_
        rotate_left
        · intro w hSw; unfold PinS at hSw; (try dsimp only at hSw); go_simp; try (with_reducible rfl)
        try simp only [Act.put, List.setIfInBounds_toArray, List.set_cons_zero, List.set_cons_succ]
        refine wpAnyL_take 20 (i := 12) (oi := { dst := some 73, op := Op.load 3 (Operand.tmp 72), type := 3, pos := "ref.go:36", after := #[{ on := 11, ground := Ground.data }], guard := none }) (v := ?_) rfl (by kernel_rfl) (by kernel_rfl) (by kernel_rfl) (by kernel_rfl) (by kernel_rfl) (fun _ _ _ h => h) (.inl ⟨by rfl, ?_⟩) hS0 ?_
        rotate_left
        · intro w hSw; unfold PinS at hSw; (try dsimp only at hSw); go_simp; try (with_reducible rfl)
        try simp only [Act.put, List.setIfInBounds_toArray, List.set_cons_zero, List.set_cons_succ]
        refine wpAnyL_take 20 (i := 13) (oi := { dst := some 74, op := Op.build 94 #[(0, Operand.tmp 63), (1, Operand.tmp 64), (2, Operand.tmp 68), (3, Operand.tmp 73)], type := 94, pos := "ref.go:36", after := #[{ on := 2, ground := Ground.data }, { on := 3, ground := Ground.data }, { on := 7, ground := Ground.data }, { on := 12, ground := Ground.data }], guard := none }) (v := ?_) rfl (by kernel_rfl) (by kernel_rfl) (by kernel_rfl) (by kernel_rfl) (by kernel_rfl) (fun _ _ _ h => h) (.inl ⟨by rfl, ?_⟩) hS0 ?_
        rotate_left
        · intro w hSw; unfold PinS at hSw; (try dsimp only at hSw); go_simp; try (with_reducible rfl)
        try simp only [Act.put, List.setIfInBounds_toArray, List.set_cons_zero, List.set_cons_succ]
        refine wpAnyL_one (i := 14) (o := { dst := some 75, op := Op.buildSlice 23 1 #[(0, Operand.tmp 74)], type := 23, pos := "ref.go:36", after := #[{ on := 13, ground := Ground.data }], guard := none }) (by kernel_rfl) rfl (by rfl) (fun K hK => ?_)
        go_simp
        refine hK _ _ (fun _ => (hat1.out _ 1).resolve_right (by omega)) ?_
        clear hK K
        try simp only [Act.put, List.setIfInBounds_toArray, List.set_cons_zero, List.set_cons_succ]
        refine wpAnyL_one (i := 15) (o := { dst := some 76, op := Op.call { callee := Callee.builtin Builtin.append, args := #[Operand.tmp 62, Operand.tmp 75], argTypes := #[23, 23] }, type := 23, pos := "ref.go:36", after := #[{ on := 1, ground := Ground.data }, { on := 14, ground := Ground.data }], guard := none }) (by kernel_rfl) rfl (by rfl) (fun K hK => ?_)
        refine wp_append_lies _ (.tmp 62) (.tmp 75) 23 rfl W2.heap.size 94 i0 (.agg #[.int .i64 0, .int .i64 0, .int .i64 0, .int .i64 0]) 4 32 Tryd.underlying23 hi0 hz0 hz1 hz2 rfl (by omega) (.slice pA s.pins.length pc) s.pins.length (pinCells s.pins) rfl (owns_alloc_drew HM.out.pins _) ⟨wr.heap.size, 0, none⟩ 1 1 [.int .i64 0, .int .i64 1, .int .i64 a1, .int .i64 a2] rfl rfl ?hnews ?hones (by omega) ?hmx ?hby ?hbs _ rfl ?_
        case hnews => exact lit_four wr _ _ _ _ _
        case hones => exact pin_ones ⟨0, 1, a1, a2⟩
        case hmx => unfold maxLen; omega
        case hby => omega
        case hbs => simp; omega
        intro g' cap w3 hown3 hgr3 hor3 _
        have hM3 := Lib.hid (HM.out.pin hCW hgW hCg ((below_box _).drew) ⟨0, 1, a1, a2⟩ hown3 hgr3 hor3)
        have hlow : ∀ b, b < W2.heap.size → w3.heap[b]? = wr.heap[b]? := fun b hb => (hgr3.block b (by simp; omega) fun e => by have := (HM.out.pins.lt b e.symm).1; omega).trans (Below.heap_alloc wr _ b (by omega))
        have hS3 : PinS w1.heap.size g s.pins.length pA pc a1 a2 w3 := hS0.keep (hlow _ hCW) (hlow _ hgW)
        have hc3 := (World.cell?_of_block (a := ⟨w1.heap.size, 2, none⟩) (hlow _ hCW)).trans HM.out.c2
        have hf3 := (World.frozen?_of_block (a := ⟨w1.heap.size, 2, none⟩) (hlow _ hCW)).trans hfz
        have hs3 := hM3.out.size
        clear hown3 hgr3 hor3 hlow
        refine hK _ _ (fun _ => hS3) ?_
        clear hK K
        try simp only [Act.put, List.setIfInBounds_toArray, List.set_cons_zero, List.set_cons_succ]
        refine wpAnyL_take 20 (i := 16) (oi := { dst := some 77, op := Op.fieldAddr 25 (Operand.tmp 5) 2, type := 0, pos := "ref.go:36", after := #[{ on := 0, ground := Ground.phase }, { on := 1, ground := Ground.phase }, { on := 2, ground := Ground.phase }, { on := 3, ground := Ground.phase }, { on := 4, ground := Ground.phase }, { on := 5, ground := Ground.phase }, { on := 6, ground := Ground.phase }, { on := 7, ground := Ground.phase }, { on := 8, ground := Ground.phase }, { on := 9, ground := Ground.phase }, { on := 10, ground := Ground.phase }, { on := 11, ground := Ground.phase }, { on := 12, ground := Ground.phase }, { on := 13, ground := Ground.phase }, { on := 14, ground := Ground.phase }, { on := 15, ground := Ground.phase }], guard := none }) (v := ?_) rfl (by kernel_rfl) (by kernel_rfl) (by kernel_rfl) (by kernel_rfl) (by kernel_rfl) (fun _ _ _ h => h) (.inl ⟨by rfl, ?_⟩) (by assumption) ?_
        rotate_left
        · intro w hSw; unfold PinS at hSw; (try dsimp only at hSw); go_simp; try (with_reducible rfl)
        try simp only [Act.put, List.setIfInBounds_toArray, List.set_cons_zero, List.set_cons_succ]
        refine wpAnyL_one (i := 17) (o := { dst := none, op := Op.store 23 (Operand.tmp 77) (Operand.tmp 76), type := 0, pos := "ref.go:36", after := #[{ on := 16, ground := Ground.data }, { on := 15, ground := Ground.data }, { on := 15, ground := Ground.chain }, { on := 0, ground := Ground.phase }, { on := 1, ground := Ground.phase }, { on := 2, ground := Ground.phase }, { on := 3, ground := Ground.phase }, { on := 4, ground := Ground.phase }, { on := 5, ground := Ground.phase }, { on := 6, ground := Ground.phase }, { on := 7, ground := Ground.phase }, { on := 8, ground := Ground.phase }, { on := 9, ground := Ground.phase }, { on := 10, ground := Ground.phase }, { on := 11, ground := Ground.phase }, { on := 12, ground := Ground.phase }, { on := 13, ground := Ground.phase }, { on := 14, ground := Ground.phase }, { on := 15, ground := Ground.phase }], guard := none }) (by kernel_rfl) rfl (by rfl) (fun K hK => ?_)
        go_simp
        refine hK _ _ (fun hne => absurd rfl hne) ?_
        clear hK K
        try simp only [Act.put, List.setIfInBounds_toArray, List.set_cons_zero, List.set_cons_succ]
        refine wpAnyL_done (by kernel_rfl) ?_ _
        refine NoPanic.normal ?_
        clear hc3 hf3 hS3 hS0 hat1 hfz at1
        generalize w3.setCell ⟨w1.heap.size, 2, none⟩ (.slice (some ⟨g', 0, none⟩) (s.pins.length + 1) cap) = w4 at *
        go_wp2_with fail
        refine (HCR.out _).mono ?_
        rintro e w5 ⟨A, c, rfl, hI, -, hb5⟩
        have hM5 := Lib.hid (hM3.out.grow hCW hgW hb5)
        clear hI
        go_wp2_with fail
        refine wp_loop_rounds 1 ?_
        rw [rounds_succ]
        go_wp2_with fail
        go_roundw
        case rel => exact ⟨k + 1, cA, cc, some ⟨g', 0, none⟩, cap, by omega, by go_num, by rw [HN.out, hMP.out]; exact hM5.out⟩
        case measure => simp [intOf]; omega
      · have heb : (((exW[k]'hk).toNat : Int) == 80) = false := ne_code hP (by decide)
        have hc80 : ¬ exWord.getD k 0 = 80 := by rw [← HEX.out]; exact hP
        have hcr := fun w => refCrossings_any (w := w) (exW.extract k (k + 1)) HW0.out
        simp only [HCW.out] at hcr
        have HN := Lib.hid (exMk_succ hk)
        have H0 : Hid (exMk2 k 0 = exMk k) := by unfold exMk2; rw [if_neg hc80]; rfl
        have HS2 := Lib.hid (fun m (h : m < (crossB (exWord.getD k 0)).length) => exMk2_succ h)
        have HRG := Lib.hid (fun n (h : n ∈ crossB (exWord.getD k 0)) => crossB_rng h)
        have hL2 := (crossB_len (exWord.getD k 0)).1
        have HSZ := Lib.hid (exMk2_sizes k hk)
        clear hc80
        generalize crossB (exWord.getD k 0) = L at *
        have HCR := Lib.hid hcr
        clear hcr
        go_wp2_with fail
        refine (HCR.out _).mono ?_
        rintro e w5 ⟨lA, lc, rfl, hI, hlA, hb5⟩
        have hM5 := HM.out.grow hCW hgW hb5
        have hdis : ∀ b off, lA = some ⟨b, off, none⟩ → W2.heap.size ≤ b ∧ (Value.slice cA (exMk k).crosses.length cc).ownBlock ≠ some b := fun b off e => ⟨by have := hlA b off e; omega, fun e2 => by have := (HM.out.crosses.lt b e2).2; have := hlA b off e; omega⟩
        have hll := hI.len
        have hlc := hI.cap
        unfold maxLen at hlc
        have H5 := Lib.hid (show ∃ cA cc pA pc, MkAt W2 w5 w1.heap.size g gc (exMk2 k 0) cA cc pA pc ∧ IntsRd w5 lA lc L ∧ (∀ b off, lA = some ⟨b, off, none⟩ → W2.heap.size ≤ b ∧ (Value.slice cA (exMk2 k 0).crosses.length cc).ownBlock ≠ some b) from ⟨cA, cc, pA, pc, by rw [H0.out]; exact hM5, hI, by rw [H0.out]; exact hdis⟩)
        clear hM5 hdis hI hlA at1
        go_wp2_with fail
        obtain ⟨wo, rfl⟩ : ∃ wo : World, wo = wr := ⟨_, rfl⟩
        go_loopw [14] (fun i wr => ∃ (m : Nat), m ≤ L.length ∧ i = .int .i64 m ∧ ∃ (cA : Option Addr) (cc : Nat) (pA : Option Addr) (pc : Nat), MkAt W2 wr w1.heap.size g gc (exMk2 k m) cA cc pA pc ∧ IntsRd wr lA lc L ∧ (∀ b off, lA = some ⟨b, off, none⟩ → W2.heap.size ≤ b ∧ (Value.slice cA (exMk2 k m).crosses.length cc).ownBlock ≠ some b)) (fun i _ => L.length - (intOf i).toNat)
        case atStart => exact ⟨0, by omega, rfl, H5.out⟩
        case round =>
          clear H5
          obtain ⟨m, hm, rfl, cA', cc', pA', pc', hM, hI, hdis⟩ := hrel
          by_cases hml : m < L.length
          · obtain ⟨lb, lo, rfl, hlb, hlm⟩ := hI.rows.int hml
            have hn := HRG.out _ (List.getElem_mem hml)
            have HS := Lib.hid (HS2.out m hml)
            have at1 := (World.cell?_of_block (a := ⟨w2.heap.size, 1, none⟩) (hM.keep w2.heap.size (by omega) (by omega) (by omega))).trans v1
            have hsz := (HSZ.out m (by omega)).2
            generalize L[m] = n at *
            obtain ⟨q, hq⟩ : ∃ q : Nat, (q : Int) = max n (-n) - 1 := ⟨(max n (-n) - 1).toNat, by omega⟩
            have hq3 : q < 3 := by omega
            generalize hss : exMk2 k m = s at *
            have hmli : (m : Int) < (L.length : Int) := by omega
            have HM3 := Lib.hid hM
            have HI := Lib.hid hI
            have HDIS := Lib.hid hdis
            have HSS := Lib.hid hss
            have HQ := Lib.hid hq
            have aq := hM.at_cell (q := q) (by omega)
            have bq := hM.at_cell (q := q + 1) (by omega)
            have fq := hM.at_frozen q
            have fq1 := hM.at_frozen (q + 1)
            have hMC : Hid (mkCross s n = { at_ := swapL s.at_ q, crosses := s.crosses ++ [if n < 0 then ⟨0, q, s.at_.getD (q + 1) 0, s.at_.getD q 0⟩ else ⟨0, q, s.at_.getD q 0, s.at_.getD (q + 1) 0⟩], pins := s.pins }) := by
              have e : (max n (-n) - 1).toNat = q := by omega
              unfold Hid mkCross
              rw [e]
            have hw1 : IntKind.i64.wrap ((q : Int) + 1) = (q : Int) + 1 := IntWalk.i64_in _ (by omega)
            have hw2 : (0 : Int) ≤ (q : Int) + 1 := by omega
            have hw3 : ((q : Int) + 1).toNat = q + 1 := by omega
            have hq4 : (q : Int) < 4 := by omega
            have hq5 : (q : Int) + 1 < 4 := by omega
            have hgr : g < wr.heap.size := by have := hM.size; omega
            clear hM hI hdis hss hq
            by_cases hneg : n < 0
            · have hqe : -n - 1 = (q : Int) := by have := HQ.out; omega
              go_wp2_with fail
              go_quiet (fail)
              go_wp2_with fail
              have hM4 := Lib.hid (HM3.out.grow hCW hgW (below_drewN (Below.refl _ wr) nq))
              have HI4 := Lib.hid (HI.out.below (below_drewN (Below.refl _ wr) nq))
              have hlm4 := ((below_drewN (Below.refl _ wr) nq).cell (p := ⟨lb, lo + m, none⟩) hlb).trans hlm
              have hlb4 : lb < (wr.drewN nq).heap.size := Nat.lt_of_lt_of_le hlb (below_drewN (Below.refl wr.heap.size wr) nq).size
              clear aq bq fq fq1 hlm at1 HM3 HI hqe hgr hlb
              generalize wr.drewN nq = wd at *
              have aq := hM4.out.at_cell (q := q) (by omega)
              have bq := hM4.out.at_cell (q := q + 1) (by omega)
              have hgr : g < wd.heap.size := by have := hM4.out.size; omega
              have hC1 := hM4.out.c1
              have hCF := hM4.out.fr 1
              have hCr : w1.heap.size < wd.heap.size := by have := hM4.out.size; omega
              obtain ⟨a0, ha0⟩ : ∃ a0, s.at_.getD q 0 = a0 := ⟨_, rfl⟩
              obtain ⟨a1, ha1⟩ : ∃ a1, s.at_.getD (q + 1) 0 = a1 := ⟨_, rfl⟩
              rw [ha0] at aq
              rw [ha1] at bq
              have HA0 := Lib.hid ha0
              have HA1 := Lib.hid ha1
              clear ha0 ha1
              go_region
              obtain ⟨i1, hi1, hz0, hz1, hz2⟩ := info_parts info_cross
              have hown4 := Lib.hid hM4.out.crosses
              go_wp2_with (refine wpList_append_lies _ rfl (.tmp 132) (.tmp 134) 22 rfl W2.heap.size 91 i1 (.agg #[.int .i64 0, .int .i64 0, .int .i64 0, .int .i64 0]) 4 32 Tryd.underlying22 hi1 hz0 hz1 hz2 rfl (by omega) (.slice cA' s.crosses.length cc') s.crosses.length (crossCells s.crosses) rfl ?hown ⟨wd.heap.size + 1, 0, none⟩ 1 1 [.int .i64 0, .int .i64 q, .int .i64 a1, .int .i64 a0] ?hx rfl ?hnews (cross_ones ⟨0, q, a1, a0⟩) (by omega) (by unfold maxLen; omega) (by omega) ?hbs _ rfl ?hcont)
              case hown => exact owns_alloc_drew (hown4.out.alloc _) _
              case hx => rfl
              case hnews => exact lit_four2 _ _ _ _ _ _ _
              case hbs => have := hM4.out.size; simp; omega
              case hcont =>
              intro cg cap w6 hown6 hgr6 hor6 _
              rw [← hsW] at hown6
              have hM6 := Lib.hid (hM4.out.cross hCW hgW hCg (((below_box _).trans ((below_box _).mono (by simp))).drew) ⟨0, q, a1, a0⟩ hown6 hgr6 (hor6.imp id fun e => e.trans (by simp [World.drew])))
              have hlow : ∀ b, b < W2.heap.size → w6.heap[b]? = wd.heap[b]? := fun b hb => (hgr6.block b (by simp; have := hM4.out.size; omega) fun e => by have := (hM4.out.crosses.lt b e.symm).1; omega).trans ((((below_box _).trans ((below_box _).mono (by simp))).drew).block b (by have := hM4.out.size; omega))
              have hc6 := (World.cell?_of_block (a := ⟨w1.heap.size, 1, none⟩) (hlow _ hCW)).trans hC1
              have hf6 := (World.frozen?_of_block (a := ⟨w1.heap.size, 1, none⟩) (hlow _ hCW)).trans hCF
              have hs6 := hM6.out.size
              go_wp2_with fail
              obtain ⟨hd1, hd2⟩ := HDIS.out lb lo rfl
              have hlb6 : w6.heap[lb]? = wd.heap[lb]? := (hgr6.block lb (by simp; omega) (fun e => hd2 e.symm)).trans ((((below_box _).trans ((below_box _).mono (by simp))).drew).block lb hlb4)
              have hI7 : IntsRd (w6.setCell ⟨w1.heap.size, 1, none⟩ (.slice (some ⟨cg, 0, none⟩) (s.crosses.length + 1) cap)) (some ⟨lb, lo, none⟩) lc L := HI4.out.keepB ((Below.heap_setCell _ _ _ _ (by show lb ≠ w1.heap.size; omega)).trans hlb6) (by have := hgr6.size; simp at this; simp; omega)
              have hd7 : ∀ b off, (some ⟨lb, lo, none⟩ : Option Addr) = some ⟨b, off, none⟩ → W2.heap.size ≤ b ∧ (Value.slice (some ⟨cg, 0, none⟩) (s.crosses.length + 1) cap).ownBlock ≠ some b := by
                intro b off e
                obtain ⟨e1, -, -⟩ := Addr.mk.inj (Option.some.inj e)
                subst e1
                refine ⟨hd1, fun e2 => ?_⟩
                have e3 : cg = lb := by simpa [Value.ownBlock] using e2
                subst e3
                rcases hor6 with h1 | h1
                · exact hd2 h1
                · omega
              have hI7 := Lib.hid hI7
              have hd7 := Lib.hid hd7
              clear hc6 hf6 hs6 hlow hown6 hgr6 hor6 hlb6 hd1 hd2 HI4 hlm4 hlb4 hC1 hCF hCr hgr aq bq hown4
              generalize w6.setCell ⟨w1.heap.size, 1, none⟩ (.slice (some ⟨cg, 0, none⟩) (s.crosses.length + 1) cap) = w7 at *
              have hM8 := Lib.hid ((hM6.out.grow hCW hgW (Below.refl w7.heap.size w7).drew).swap hCW hgW hCg q)
              have aq := hM6.out.at_cell (q := q) (by omega)
              have bq := hM6.out.at_cell (q := q + 1) (by omega)
              have fq := hM6.out.at_frozen q
              have fq1 := hM6.out.at_frozen (q + 1)
              have hgr : g < w7.heap.size := by have := hM6.out.size; omega
              rw [show ({ s with crosses := s.crosses ++ [⟨0, q, a1, a0⟩] } : Mk).at_ = s.at_ from rfl, HA0.out] at aq
              rw [show ({ s with crosses := s.crosses ++ [⟨0, q, a1, a0⟩] } : Mk).at_ = s.at_ from rfl, HA1.out] at bq
              have hM8 : Hid (MkAt W2 ((w7.drew.setCell ⟨g, q, none⟩ (.int .i64 a1)).setCell ⟨g, q + 1, none⟩ (.int .i64 a0)) w1.heap.size g gc (mkCross s n) (some ⟨cg, 0, none⟩) cap pA' pc') := by
                have := hM8.out
                rw [show ({ s with crosses := s.crosses ++ [⟨0, q, a1, a0⟩] } : Mk).at_ = s.at_ from rfl, HA0.out, HA1.out] at this
                rw [hMC.out, if_pos hneg, HA0.out, HA1.out]
                exact this
              have hd8 : ∀ b off, (some ⟨lb, lo, none⟩ : Option Addr) = some ⟨b, off, none⟩ → W2.heap.size ≤ b ∧ (Value.slice (some ⟨cg, 0, none⟩) (mkCross s n).crosses.length cap).ownBlock ≠ some b := hd7.out
              have hlbW := (hd7.out lb lo rfl).1
              go_region
              go_wp2_with fail
              go_roundw
              case rel =>
                refine ⟨m + 1, by omega, by go_num, some ⟨cg, 0, none⟩, cap, pA', pc', ?_⟩
                rw [HS.out]
                refine ⟨hM8.out, ?_, hd8⟩
                exact hI7.out.keepB ((Below.heap_setCell _ _ _ _ (by show lb ≠ g; omega)).trans (Below.heap_setCell _ _ _ _ (by show lb ≠ g; omega))) (by simp [World.setCell, World.drew])
              case measure => simp [intOf]; omega
            · have hqe : n - 1 = (q : Int) := by have := HQ.out; omega
              go_wp2_with fail
              go_quiet (fail)
              go_wp2_with fail
              have hM4 := Lib.hid (HM3.out.grow hCW hgW (below_drewN (Below.refl _ wr) nq))
              have HI4 := Lib.hid (HI.out.below (below_drewN (Below.refl _ wr) nq))
              have hlm4 := ((below_drewN (Below.refl _ wr) nq).cell (p := ⟨lb, lo + m, none⟩) hlb).trans hlm
              have hlb4 : lb < (wr.drewN nq).heap.size := Nat.lt_of_lt_of_le hlb (below_drewN (Below.refl wr.heap.size wr) nq).size
              clear aq bq fq fq1 hlm at1 HM3 HI hqe hgr hlb
              generalize wr.drewN nq = wd at *
              have aq := hM4.out.at_cell (q := q) (by omega)
              have bq := hM4.out.at_cell (q := q + 1) (by omega)
              have hgr : g < wd.heap.size := by have := hM4.out.size; omega
              have hC1 := hM4.out.c1
              have hCF := hM4.out.fr 1
              have hCr : w1.heap.size < wd.heap.size := by have := hM4.out.size; omega
              obtain ⟨a0, ha0⟩ : ∃ a0, s.at_.getD q 0 = a0 := ⟨_, rfl⟩
              obtain ⟨a1, ha1⟩ : ∃ a1, s.at_.getD (q + 1) 0 = a1 := ⟨_, rfl⟩
              rw [ha0] at aq
              rw [ha1] at bq
              have HA0 := Lib.hid ha0
              have HA1 := Lib.hid ha1
              clear ha0 ha1
              go_region
              obtain ⟨i1, hi1, hz0, hz1, hz2⟩ := info_parts info_cross
              have hown4 := Lib.hid hM4.out.crosses
              go_wp2_with (refine wpList_append_lies _ rfl (.tmp 132) (.tmp 134) 22 rfl W2.heap.size 91 i1 (.agg #[.int .i64 0, .int .i64 0, .int .i64 0, .int .i64 0]) 4 32 Tryd.underlying22 hi1 hz0 hz1 hz2 rfl (by omega) (.slice cA' s.crosses.length cc') s.crosses.length (crossCells s.crosses) rfl ?hown ⟨wd.heap.size + 1, 0, none⟩ 1 1 [.int .i64 0, .int .i64 q, .int .i64 a0, .int .i64 a1] ?hx rfl ?hnews (cross_ones ⟨0, q, a0, a1⟩) (by omega) (by unfold maxLen; omega) (by omega) ?hbs _ rfl ?hcont)
              case hown => exact owns_alloc_drew (hown4.out.alloc _) _
              case hx => rfl
              case hnews => exact lit_four2 _ _ _ _ _ _ _
              case hbs => have := hM4.out.size; simp; omega
              case hcont =>
              intro cg cap w6 hown6 hgr6 hor6 _
              rw [← hsW] at hown6
              have hM6 := Lib.hid (hM4.out.cross hCW hgW hCg (((below_box _).trans ((below_box _).mono (by simp))).drew) ⟨0, q, a0, a1⟩ hown6 hgr6 (hor6.imp id fun e => e.trans (by simp [World.drew])))
              have hlow : ∀ b, b < W2.heap.size → w6.heap[b]? = wd.heap[b]? := fun b hb => (hgr6.block b (by simp; have := hM4.out.size; omega) fun e => by have := (hM4.out.crosses.lt b e.symm).1; omega).trans ((((below_box _).trans ((below_box _).mono (by simp))).drew).block b (by have := hM4.out.size; omega))
              have hc6 := (World.cell?_of_block (a := ⟨w1.heap.size, 1, none⟩) (hlow _ hCW)).trans hC1
              have hf6 := (World.frozen?_of_block (a := ⟨w1.heap.size, 1, none⟩) (hlow _ hCW)).trans hCF
              have hs6 := hM6.out.size
              go_wp2_with fail
              obtain ⟨hd1, hd2⟩ := HDIS.out lb lo rfl
              have hlb6 : w6.heap[lb]? = wd.heap[lb]? := (hgr6.block lb (by simp; omega) (fun e => hd2 e.symm)).trans ((((below_box _).trans ((below_box _).mono (by simp))).drew).block lb hlb4)
              have hI7 : IntsRd (w6.setCell ⟨w1.heap.size, 1, none⟩ (.slice (some ⟨cg, 0, none⟩) (s.crosses.length + 1) cap)) (some ⟨lb, lo, none⟩) lc L := HI4.out.keepB ((Below.heap_setCell _ _ _ _ (by show lb ≠ w1.heap.size; omega)).trans hlb6) (by have := hgr6.size; simp at this; simp; omega)
              have hd7 : ∀ b off, (some ⟨lb, lo, none⟩ : Option Addr) = some ⟨b, off, none⟩ → W2.heap.size ≤ b ∧ (Value.slice (some ⟨cg, 0, none⟩) (s.crosses.length + 1) cap).ownBlock ≠ some b := by
                intro b off e
                obtain ⟨e1, -, -⟩ := Addr.mk.inj (Option.some.inj e)
                subst e1
                refine ⟨hd1, fun e2 => ?_⟩
                have e3 : cg = lb := by simpa [Value.ownBlock] using e2
                subst e3
                rcases hor6 with h1 | h1
                · exact hd2 h1
                · omega
              have hI7 := Lib.hid hI7
              have hd7 := Lib.hid hd7
              clear hc6 hf6 hs6 hlow hown6 hgr6 hor6 hlb6 hd1 hd2 HI4 hlm4 hlb4 hC1 hCF hCr hgr aq bq hown4
              generalize w6.setCell ⟨w1.heap.size, 1, none⟩ (.slice (some ⟨cg, 0, none⟩) (s.crosses.length + 1) cap) = w7 at *
              have hM8 := Lib.hid ((hM6.out.grow hCW hgW (Below.refl w7.heap.size w7).drew).swap hCW hgW hCg q)
              have aq := hM6.out.at_cell (q := q) (by omega)
              have bq := hM6.out.at_cell (q := q + 1) (by omega)
              have fq := hM6.out.at_frozen q
              have fq1 := hM6.out.at_frozen (q + 1)
              have hgr : g < w7.heap.size := by have := hM6.out.size; omega
              rw [show ({ s with crosses := s.crosses ++ [⟨0, q, a0, a1⟩] } : Mk).at_ = s.at_ from rfl, HA0.out] at aq
              rw [show ({ s with crosses := s.crosses ++ [⟨0, q, a0, a1⟩] } : Mk).at_ = s.at_ from rfl, HA1.out] at bq
              have hM8 : Hid (MkAt W2 ((w7.drew.setCell ⟨g, q, none⟩ (.int .i64 a1)).setCell ⟨g, q + 1, none⟩ (.int .i64 a0)) w1.heap.size g gc (mkCross s n) (some ⟨cg, 0, none⟩) cap pA' pc') := by
                have := hM8.out
                rw [show ({ s with crosses := s.crosses ++ [⟨0, q, a0, a1⟩] } : Mk).at_ = s.at_ from rfl, HA0.out, HA1.out] at this
                rw [hMC.out, if_neg (show ¬ n < 0 by omega), HA0.out, HA1.out]
                exact this
              have hd8 : ∀ b off, (some ⟨lb, lo, none⟩ : Option Addr) = some ⟨b, off, none⟩ → W2.heap.size ≤ b ∧ (Value.slice (some ⟨cg, 0, none⟩) (mkCross s n).crosses.length cap).ownBlock ≠ some b := hd7.out
              have hlbW := (hd7.out lb lo rfl).1
              go_region
              go_wp2_with fail
              go_roundw
              case rel =>
                refine ⟨m + 1, by omega, by go_num, some ⟨cg, 0, none⟩, cap, pA', pc', ?_⟩
                rw [HS.out]
                refine ⟨hM8.out, ?_, hd8⟩
                exact hI7.out.keepB ((Below.heap_setCell _ _ _ _ (by show lb ≠ g; omega)).trans (Below.heap_setCell _ _ _ _ (by show lb ≠ g; omega))) (by simp [World.setCell, World.drew])
              case measure => simp [intOf]; omega
          · obtain rfl : m = L.length := by omega
            have hmli : ¬ ((L.length : Int) < (L.length : Int)) := by omega
            have HM3 := Lib.hid hM
            clear hM hI hdis
            go_wp2_with fail
            go_roundw
            case rel => exact ⟨k + 1, cA', cc', pA', pc', by omega, by go_num, by rw [HN.out]; exact HM3.out⟩
            case measure => simp [intOf]; omega
    · obtain rfl : k = 4 := by omega
      have hE := Lib.hid (exMk_end)
      have HM := Lib.hid hM
      have hC0 := hM.c0
      have hC1 := hM.c1
      have hC2 := hM.c2
      have hr0 := (World.cell?_of_block (a := ⟨w.heap.size + 1, 0, none⟩) (hM.keep (w.heap.size + 1) (by omega) (by omega) (by omega))).trans hr0
      have hr1 := (World.cell?_of_block (a := ⟨w.heap.size + 1, 1, none⟩) (hM.keep (w.heap.size + 1) (by omega) (by omega) (by omega))).trans hr1
      have hr2 := (World.cell?_of_block (a := ⟨w.heap.size + 1, 2, none⟩) (hM.keep (w.heap.size + 1) (by omega) (by omega) (by omega))).trans hr2
      have hf0 := fun o => (World.frozen?_of_block (a := ⟨w.heap.size + 1, o, none⟩) (hM.keep (w.heap.size + 1) (by omega) (by omega) (by omega))).trans (hf0 o)
      have bx1 := (World.cell?_of_block (a := ⟨w.heap.size, 1, none⟩) (hM.keep w.heap.size (by omega) (by omega) (by omega))).trans bx1
      clear hM
      go_wp2_with fail
      rw [rounds_succ]
      go_wp2_with fail
      have hMM := HM.out
      have hsz := hMM.size
      have hBr : Below w.heap.size w wr := ⟨hMM.os.trans hBW.os, hMM.tape.trans hBW.tape, hMM.output.trans hBW.output, by have := hBW.size; omega, fun b hb => (hMM.keep b (by omega) (by omega) (by omega)).trans (hBW.block b hb)⟩
      generalize hW' : (((wr.setCell ⟨w.heap.size + 1, 0, none⟩ (.int .i64 4)).setCell ⟨w.heap.size + 1, 1, none⟩ (.slice cA (exMk 4).crosses.length cc)).setCell ⟨w.heap.size + 1, 2, none⟩ (.slice pA (exMk 4).pins.length pc)) = W'
      have y0 : W'.cell? ⟨w.heap.size + 1, 0, none⟩ = some (.int .i64 4) := by rw [← hW']; clear hW'; go_simp
      have y1 : W'.cell? ⟨w.heap.size + 1, 1, none⟩ = some (.slice cA (exMk 4).crosses.length cc) := by rw [← hW']; clear hW'; go_simp
      have y2 : W'.cell? ⟨w.heap.size + 1, 2, none⟩ = some (.slice pA (exMk 4).pins.length pc) := by rw [← hW']; clear hW'; go_simp
      have hk : ∀ k, k ≠ w.heap.size + 1 → W'.heap[k]? = wr.heap[k]? := fun k h1 => by
        rw [← hW']
        exact (Below.heap_setCell _ _ _ _ (by simpa using h1)).trans ((Below.heap_setCell _ _ _ _ (by simpa using h1)).trans (Below.heap_setCell _ _ _ _ (by simpa using h1)))
      have hB : Below w.heap.size w W' := by
        rw [← hW']
        exact ((hBr.setCell (p := ⟨w.heap.size + 1, 0, none⟩) (by simp) _).setCell (p := ⟨w.heap.size + 1, 1, none⟩) (by simp) _).setCell (p := ⟨w.heap.size + 1, 2, none⟩) (by simp) _
      have hoc := owns_keep hMM.crosses (w' := W') fun g hg => hk g (by have := (hMM.crosses.lt g hg).1; omega)
      have hop := owns_keep hMM.pins (w' := W') fun g hg => hk g (by have := (hMM.pins.lt g hg).1; omega)
      obtain ⟨r1, r2, r3⟩ := rows_of_ownsG Cross.cells 4 (fun _ => rfl) hoc
      obtain ⟨p1, p2, p3⟩ := rows_of_ownsG Pin.cells 4 (fun _ => rfl) hop
      clear hW' hoc hop
      rw [hE.out.1] at y1 r1 r2
      rw [hE.out.2] at y2 p1 p2
      refine bodyPost_ret (v := .tuple #[clothVal cA cc pA pc exCloth, .int .i64 0]) (by simp [results, Tryd.f42, go_sem, y0, y1, y2]; rfl) rfl ⟨cA, cc, pA, pc, rfl, ⟨r1, r2, r3, p1, p2, p3, exCloth_wf⟩, fun b off e => by subst e; have := (hMM.crosses.lt b rfl).1; omega, fun b off e => by subst e; have := (hMM.pins.lt b rfl).1; omega, hB⟩
end Go.Proofs.YtegbbkmppphddaaDoor
