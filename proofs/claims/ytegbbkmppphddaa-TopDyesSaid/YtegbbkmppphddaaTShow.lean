/- The program's shows: at which crossings each thread shows. -/
import Derived.Test.YtegbbkmppphddaaTLst
set_option linter.unusedVariables false
set_option linter.unusedSimpArgs false
namespace Go.Proofs.Ytegbbkmppphddaa
open Go.RowKit

def vals (A : Nat → Option Addr) (C : Nat → Nat) (L : Nat → List Int) (n : Nat) : List Value := (List.range n).map fun (k : Nat) => Value.slice (A k) (L k).length (C k)
theorem vals_get {A : Nat → Option Addr} {C : Nat → Nat} {L : Nat → List Int} {n k : Nat} (hk : k < n) : (vals A C L n)[k]? = some (.slice (A k) (L k).length (C k)) := by simp [vals, hk]
def upd {α : Type} (f : Nat → α) (q : Nat) (x : α) (k : Nat) : α := if k = q then x else f k
theorem vals_set {A : Nat → Option Addr} {C : Nat → Nat} {L : Nat → List Int} {n q : Nat} (A' : Option Addr) (C' : Nat) (L' : List Int) : (vals A C L n).set q (.slice A' L'.length C') = vals (upd A q A') (upd C q C') (upd L q L') n := by
  apply List.ext_getElem
  · simp [vals]
  · intro i h1 h2
    rw [List.getElem_set]
    simp only [vals, List.getElem_map, List.getElem_range, upd]
    by_cases e : q = i
    · subst e; simp
    · have : ¬ i = q := fun h => e h.symm
      simp [e, this]
/-- A row of lists in the making, in block OB. -/
structure ShowAt (W0 w : World) (B OB n : Nat) (A : Nat → Option Addr) (C : Nat → Nat) (L : Nat → List Int) : Prop where
  row : w.heap[OB]? = some (.cells (vals A C L n).toArray 47 (0, 0))
  own : ∀ k, k < n → w.ownsRow B 3 1 (.slice (A k) (L k).length (C k)) (L k).length (ints (L k))
  dis : ∀ j k b, j < n → k < n → j ≠ k → (Value.slice (A j) (L j).length (C j)).ownBlock = some b → (Value.slice (A k) (L k).length (C k)).ownBlock ≠ some b
  keep : ∀ b, b < B → b ≠ OB → w.heap[b]? = W0.heap[b]?
  size : B ≤ w.heap.size
  os : w.os = W0.os
  tape : w.tape = W0.tape
  output : w.output = W0.output
section
variable {W0 w w1 w2 : World} {B OB n : Nat} {A : Nat → Option Addr} {C : Nat → Nat} {L : Nat → List Int}
theorem ShowAt.cell (h : ShowAt W0 w B OB n A C L) {k : Nat} (hk : k < n) : w.cell? ⟨OB, k, none⟩ = some (.slice (A k) (L k).length (C k)) := by
  rw [cell_of_row w OB k _ _ _ h.row]
  simpa using vals_get hk
theorem ShowAt.frozen (h : ShowAt W0 w B OB n A C L) (k : Nat) : w.frozen? ⟨OB, k, none⟩ = false := frozen_of_row w OB k _ _ h.row
theorem ShowAt.grow (h : ShowAt W0 w B OB n A C L) (hO : OB < B) (hb : Below w.heap.size w w1) : ShowAt W0 w1 B OB n A C L := by
  have hs := h.size
  exact ⟨(hb.block OB (by omega)).trans h.row, fun k hk => owns_keep (h.own k hk) fun g hg => hb.block g ((h.own k hk).lt g hg).2, h.dis, fun b h1 h2 => (hb.block b (by omega)).trans (h.keep b h1 h2), Nat.le_trans hs hb.size, hb.os.trans h.os, hb.tape.trans h.tape, hb.output.trans h.output⟩
theorem ShowAt.put (h0 : ShowAt W0 w B OB n A C L) (hO : OB < B) (hb : Below w.heap.size w w1) {q : Nat} (hq : q < n) {g cap : Nat} {L' : List Int}
    (hown : w2.ownsRow B 3 1 (.slice (some ⟨g, 0, none⟩) L'.length cap) L'.length (ints L')) (hg : w1.grownBy w2 (Value.slice (A q) (L q).length (C q)).ownBlock)
    (hor : (Value.slice (A q) (L q).length (C q)).ownBlock = some g ∨ g = w1.heap.size) :
    ShowAt W0 (w2.setCell ⟨OB, q, none⟩ (.slice (some ⟨g, 0, none⟩) L'.length cap)) B OB n (upd A q (some ⟨g, 0, none⟩)) (upd C q cap) (upd L q L') := by
  have h := h0.grow hO hb
  have hs := h.size
  have hgs := hg.size
  have hlow : ∀ k, k < B → w2.heap[k]? = w1.heap[k]? := fun k hk => hg.block k (by omega) fun e => by have := ((h.own q hq).lt k e.symm).1; omega
  have hk3 : ∀ k, k ≠ OB → (w2.setCell ⟨OB, q, none⟩ (.slice (some ⟨g, 0, none⟩) L'.length cap)).heap[k]? = w2.heap[k]? := fun k hk => Below.heap_setCell _ _ _ _ (by simpa using hk)
  have hfar : ∀ k, k < n → k ≠ q → ∀ b, (Value.slice (A k) (L k).length (C k)).ownBlock = some b → b ≠ g := fun k hk hkq b hbk e => by
    subst e
    rcases hor with e | e
    · exact h.dis k q b hk hq hkq hbk e
    · have := ((h.own k hk).lt b hbk).2; omega
  refine ⟨?_, fun k hk => ?_, fun j k b hj hk hjk => ?_, fun b h1 h2 => (hk3 b h2).trans ((hlow b h1).trans (h.keep b h1 h2)), by simp only [World.size_setCell]; omega, hg.os.trans h.os, hg.tape.trans h.tape, hg.output.trans h.output⟩
  · rw [heap_setCell_same w2 OB q _ _ _ ((hlow OB hO).trans h.row), ← vals_set]
    simp
  · by_cases e : k = q
    · subst e
      simp only [upd, if_pos]
      refine owns_keep hown fun b hb' => hk3 b ?_
      have := (hown.lt b hb').1; omega
    · simp only [upd, if_neg e]
      refine owns_keep (h.own k hk) fun b hb' => (hk3 b ?_).trans (hg.block b ((h.own k hk).lt b hb').2 fun e2 => ?_)
      · have := ((h.own k hk).lt b hb').1; omega
      · exact h.dis k q b hk hq e hb' e2.symm
  · by_cases e1 : j = q
    · subst e1
      have e2 : ¬ k = j := fun e => hjk e.symm
      simp only [upd, if_pos, if_neg e2]
      intro hb1 hb2
      have : b = g := by simpa [Value.ownBlock] using hb1.symm
      exact hfar k hk e2 b hb2 this
    · by_cases e2 : k = q
      · subst e2
        simp only [upd, if_pos, if_neg e1]
        intro hb1 hb2
        have : b = g := by simpa [Value.ownBlock] using hb2.symm
        exact hfar j hj e1 b hb1 this
      · simp only [upd, if_neg e1, if_neg e2]
        exact h.dis j k b hj hk hjk
end
/-- At which of the first crossings a thread shows. -/
def shL (c : Cloth) : Nat → Nat → List Int
  | 0, _ => []
  | m + 1, k => if (c.crosses.getD m default).over = (k : Int) then shL c m k ++ [(m : Int)] else shL c m k
theorem shL_upd (c : Cloth) {m ov : Nat} (hm : m < c.crosses.length) (ho : c.crosses[m].over = (ov : Int)) : shL c (m + 1) = upd (shL c m) ov (shL c m ov ++ [(m : Int)]) := by
  funext k
  have e : c.crosses.getD m default = c.crosses[m] := by simp [hm]
  simp only [shL, upd, e, ho]
  by_cases h : k = ov
  · subst h; simp
  · have : ¬ (ov : Int) = (k : Int) := by omega
    simp [h, this]
theorem shL_len (c : Cloth) (m k : Nat) : (shL c m k).length ≤ m ∧ ∀ x ∈ shL c m k, 0 ≤ x ∧ x < m := by
  induction m with
  | zero => simp [shL]
  | succ m ih =>
    simp only [shL]
    split
    · refine ⟨by simp; exact ih.1, fun x hx => ?_⟩
      rcases List.mem_append.1 hx with hx | hx
      · have := ih.2 x hx; omega
      · obtain rfl : x = (m : Int) := by simpa using hx
        omega
    · exact ⟨by omega, fun x hx => by have := ih.2 x hx; omega⟩
theorem shL_nil (c : Cloth) (k : Nat) : ∀ m, m ≤ c.crosses.length → ((shL c m k).length = 0 ↔ (c.crosses.take m).any (fun x => x.over == (k : Int)) = false)
  | 0, _ => by simp [shL]
  | m + 1, hm => by
    have ih := shL_nil c k m (by omega)
    have hml : m < c.crosses.length := by omega
    have e : c.crosses.getD m default = c.crosses[m] := by simp [hml]
    rw [List.take_succ_eq_append_getElem hml, List.any_append]
    simp only [shL, e, List.any_cons, List.any_nil, Bool.or_false]
    by_cases h : c.crosses[m].over = (k : Int)
    · simp [h]
    · have : (c.crosses[m].over == (k : Int)) = false := by simpa using h
      rw [if_neg h, this, Bool.or_false]
      exact ih
theorem vals_zero (n : Nat) : (vals (fun _ => none) (fun _ => 0) (fun _ => []) n).toArray = Array.replicate n (Value.slice none 0 0) := by
  apply Array.ext'
  simp only [vals, Array.toList_replicate]
  apply List.ext_getElem
  · simp
  · intro i h1 h2; simp
def ShowPP (w : World) (c : Cloth) (n : Nat) (e : Ending) (w' : World) : Prop :=
  ∃ (OB : Nat) (A : Nat → Option Addr) (C : Nat → Nat), e = .returned (.slice (some ⟨OB, 0, none⟩) n n) ∧ w.heap.size ≤ OB ∧ OB < w'.heap.size ∧ (∀ k, k < n → w'.cell? ⟨OB, k, none⟩ = some (.slice (A k) (shL c c.crosses.length k).length (C k))) ∧ Below w.heap.size w w'
def ShowQ (X OB ov : Nat) (A : Option Addr) (m c : Nat) (w : World) : Prop := w.cell? ⟨X, 2, none⟩ = some (.int .i64 (ov : Nat)) ∧ w.cell? ⟨OB, ov, none⟩ = some (.slice A m c)
theorem ShowQ.keep {X OB ov : Nat} {A : Option Addr} {m c : Nat} {w w' : World} (h : ShowQ X OB ov A m c w) (h1 : w'.heap[X]? = w.heap[X]?) (h2 : w'.heap[OB]? = w.heap[OB]?) : ShowQ X OB ov A m c w' :=
  ⟨(World.cell?_of_block (a := ⟨X, 2, none⟩) h1).trans h.1, (World.cell?_of_block (a := ⟨OB, ov, none⟩) h2).trans h.2⟩
theorem mk_lists {n : Nat} (hn : n = 4 ∨ n = 6) (w : World) : (Instr.makeSlice 79 (.int .i64 (n : Nat)) (.int .i64 (n : Nat))).run Try.prog w = .ok (.slice (some ⟨w.heap.size, 0, none⟩) n n) (w.alloc (.cells (List.replicate n (.slice none 0 0)).toArray 47)) := by
  rcases hn with rfl | rfl
  · kernel_rfl
  · kernel_rfl

set_option maxRecDepth 100000 in
set_option maxHeartbeats 2000000 in
theorem shows_any {w : World} {cA : Option Addr} {cc : Nat} {pA : Option Addr} {pc : Nat} {c : Cloth} (h : ClothRd w cA cc pA pc c) (h0 : clothB c = 0) {n : Nat} (hn : n = 4 ∨ n = 6) (hth : c.threads = (n : Nat)) :
    Calls Try.prog 31 #[clothVal cA cc pA pc c] w (ShowPP w c n) := by
  have hbx := below_box (w := w) (.cells #[.int .i64 c.threads, .slice cA c.crosses.length cc, .slice pA c.pins.length pc] 36)
  have h1 := h.below hbx
  obtain ⟨-, hcr, hov⟩ := clothB_over h0
  have HOV := Lib.hid hov
  have hmk := mk_lists hn
  rw [← hth] at hmk
  have HTH := Lib.hid hth
  have HN := Lib.hid hn
  have hn6 : n ≤ 6 := by omega
  obtain ⟨i0, hi0, hz0, hz1, hz2⟩ := info_parts info_int
  clear h0 hov hth hn
  go_enter Try.func31, Try.ntmps31
  go_wp2_with fail
  have hBW : Below w.heap.size w ((w.alloc (.cells #[.int .i64 c.threads, .slice cA c.crosses.length cc, .slice pA c.pins.length pc] 36)).alloc (.cells (Array.replicate n (.slice none 0 0)) 47)) := below_box2 w _ _
  have HS : Hid (ShowAt ((w.alloc (.cells #[.int .i64 c.threads, .slice cA c.crosses.length cc, .slice pA c.pins.length pc] 36)).alloc (.cells (Array.replicate n (.slice none 0 0)) 47)) ((w.alloc (.cells #[.int .i64 c.threads, .slice cA c.crosses.length cc, .slice pA c.pins.length pc] 36)).alloc (.cells (Array.replicate n (.slice none 0 0)) 47)) (w.heap.size + 1 + 1) (w.heap.size + 1) n (fun _ => none) (fun _ => 0) (shL c 0)) := by
    refine ⟨?_, fun k _ => World.ownsRow_nil _ _ _ _, (by intro j k b _ _ _ hb; cases hb), fun _ _ _ => rfl, by simp, rfl, rfl, rfl⟩
    have e : shL c 0 = fun _ => [] := by funext k; rfl
    rw [e, vals_zero]
    exact heap_alloc2_new w _ _
  have x1 : ((w.alloc (.cells #[.int .i64 c.threads, .slice cA c.crosses.length cc, .slice pA c.pins.length pc] 36)).alloc (.cells (Array.replicate n (.slice none 0 0)) 47)).cell? ⟨w.heap.size, 1, none⟩ = some (.slice cA c.crosses.length cc) := by simp
  have X1 := Lib.hid x1
  have h2 := h.below hBW
  have hsW : ((w.alloc (.cells #[.int .i64 c.threads, .slice cA c.crosses.length cc, .slice pA c.pins.length pc] 36)).alloc (.cells (Array.replicate n (.slice none 0 0)) 47)).heap.size = w.heap.size + 1 + 1 := by simp
  have HSW := Lib.hid hsW
  clear x1 hsW hmk h1 hbx
  generalize ((w.alloc (.cells #[.int .i64 c.threads, .slice cA c.crosses.length cc, .slice pA c.pins.length pc] 36)).alloc (.cells (Array.replicate n (.slice none 0 0)) 47)) = W at *
  obtain ⟨wo, hwo⟩ : ∃ wo : World, wo = W := ⟨_, rfl⟩
  go_loopw [12] (fun i wr => ∃ (m : Nat) (A : Nat → Option Addr) (C : Nat → Nat), m ≤ c.crosses.length ∧ i = .int .i64 m ∧ ShowAt W wr (w.heap.size + 1 + 1) (w.heap.size + 1) n A C (shL c m)) (fun i _ => c.crosses.length - (intOf i).toNat)
  case atStart => exact ⟨0, _, _, by omega, rfl, HS.out⟩
  case round =>
    clear HS hwo
    obtain ⟨m, A, C, hm, rfl, hS⟩ := hrel
    have x1 := (World.cell?_of_block (a := ⟨w.heap.size, 1, none⟩) (hS.keep w.heap.size (by omega) (by omega))).trans X1.out
    by_cases hml : m < c.crosses.length
    · obtain ⟨b, off, hcA, hb, k0, k1, k2, k3⟩ := h.crosses.cross hml
      subst hcA
      have hbk : wr.heap[b]? = w.heap[b]? := (hS.keep b (by omega) (by omega)).trans (hBW.block b hb)
      have k0 := (World.cell?_of_block (a := ⟨b, off + m * 4, none⟩) hbk).trans k0
      have k1 := (World.cell?_of_block (a := ⟨b, off + m * 4 + 1, none⟩) hbk).trans k1
      have k2 := (World.cell?_of_block (a := ⟨b, off + m * 4 + 2, none⟩) hbk).trans k2
      have k3 := (World.cell?_of_block (a := ⟨b, off + m * 4 + 3, none⟩) hbk).trans k3
      obtain ⟨ho0, ho1, -, -⟩ := HOV.out _ (List.getElem_mem hml)
      rw [HTH.out] at ho1
      obtain ⟨ov, hov⟩ := Int.eq_ofNat_of_zero_le ho0
      have hovn : ov < n := by omega
      have HSU := Lib.hid (shL_upd c hml hov)
      generalize c.crosses[m].work = wk at *
      generalize c.crosses[m].at_ = at' at *
      generalize c.crosses[m].under = un at *
      generalize c.crosses[m].over = ox at *
      subst hov
      have hcell := hS.cell hovn
      have hfz := hS.frozen ov
      have hlb := shL_len c m ov
      have hll := hlb.1
      have hlw := Lib.hid (fun x (hx : x ∈ shL c m ov) => show I64 x by have := hlb.2 x hx; unfold I64; omega)
      have hOr : w.heap.size + 1 < wr.heap.size := by have := hS.size; omega
      have hmi : (m : Int) < (c.crosses.length : Int) := by omega
      have hoi : (ov : Int) < (n : Int) := by omega
      have hbx4 := below_box (w := wr) (.cells #[.int .i64 wk, .int .i64 at', .int .i64 (ov : Nat), .int .i64 un] 66)
      have hS4 := Lib.hid (hS.grow (by omega) hbx4)
      have hz4 : wr.heap.size < (wr.alloc (.cells #[.int .i64 wk, .int .i64 at', .int .i64 (ov : Nat), .int .i64 un] 66)).heap.size := by simp
      have e0 := (hbx4.cell (p := ⟨w.heap.size + 1, ov, none⟩) hOr).trans hcell
      have e1 := (hbx4.frozen (p := ⟨w.heap.size + 1, ov, none⟩) hOr).trans hfz
      have hO4 : w.heap.size + 1 < (wr.alloc (.cells #[.int .i64 wk, .int .i64 at', .int .i64 (ov : Nat), .int .i64 un] 66)).heap.size := by omega
      have hQ0 : ShowQ wr.heap.size (w.heap.size + 1) ov (A ov) (shL c m ov).length (C ov) (wr.alloc (.cells #[.int .i64 wk, .int .i64 at', .int .i64 (ov : Nat), .int .i64 un] 66)).drew := ⟨by go_simp, e0⟩
      have hox : ∀ k, (Value.slice (A ov) (shL c m ov).length (C ov)).ownBlock = some k → w.heap.size + 1 + 1 ≤ k ∧ k < wr.heap.size := fun k hk => (hS.own ov hovn).lt k hk
      clear hlb hbx4 hcell hfz hbk
      go_wp2_with fail
      clear k0 k1 k2 k3 x1 hS
      generalize (wr.alloc (.cells #[.int .i64 wk, .int .i64 at', .int .i64 (ov : Nat), .int .i64 un] 66)) = W4 at *
      refine wp_region_noPanic ?_
      refine wp_region_L (S := (ShowQ wr.heap.size (w.heap.size + 1) ov (A ov) (shL c m ov).length (C ov))) (L := 12) (by kernel_rfl) ?_
      refine wpAnyL_take 20 (i := 0) (oi := { dst := some 17, op := Op.move (Operand.tmp 3), type := 79, pos := "colours.go:73", after := #[], guard := none }) (v := ?_) rfl (by kernel_rfl) (by kernel_rfl) (by kernel_rfl) (by kernel_rfl) (by kernel_rfl) (fun _ _ _ h => h) (.inl ⟨by rfl, ?_⟩) hQ0 ?_
      rotate_left
      · intro w hSw; unfold ShowQ at hSw; (try dsimp only at hSw); go_simp; try (with_reducible rfl)
      try simp only [Act.put, List.setIfInBounds_toArray, List.set_cons_zero, List.set_cons_succ]
      refine wpAnyL_take 20 (i := 1) (oi := { dst := some 18, op := Op.fieldAddr 66 (Operand.tmp 5) 2, type := 0, pos := "colours.go:73", after := #[], guard := none }) (v := ?_) rfl (by kernel_rfl) (by kernel_rfl) (by kernel_rfl) (by kernel_rfl) (by kernel_rfl) (fun _ _ _ h => h) (.inl ⟨by rfl, ?_⟩) hQ0 ?_
      rotate_left
      · intro w hSw; unfold ShowQ at hSw; (try dsimp only at hSw); go_simp; try (with_reducible rfl)
      try simp only [Act.put, List.setIfInBounds_toArray, List.set_cons_zero, List.set_cons_succ]
      refine wpAnyL_take 20 (i := 2) (oi := { dst := some 19, op := Op.load 3 (Operand.tmp 18), type := 3, pos := "colours.go:73", after := #[{ on := 1, ground := Ground.data }], guard := none }) (v := ?_) rfl (by kernel_rfl) (by kernel_rfl) (by kernel_rfl) (by kernel_rfl) (by kernel_rfl) (fun _ _ _ h => h) (.inl ⟨by rfl, ?_⟩) hQ0 ?_
      rotate_left
      · intro w hSw; unfold ShowQ at hSw; (try dsimp only at hSw); go_simp; try (with_reducible rfl)
      try simp only [Act.put, List.setIfInBounds_toArray, List.set_cons_zero, List.set_cons_succ]
      refine wpAnyL_take 20 (i := 3) (oi := { dst := some 20, op := Op.move (Operand.tmp 3), type := 79, pos := "colours.go:73", after := #[], guard := none }) (v := ?_) rfl (by kernel_rfl) (by kernel_rfl) (by kernel_rfl) (by kernel_rfl) (by kernel_rfl) (fun _ _ _ h => h) (.inl ⟨by rfl, ?_⟩) hQ0 ?_
      rotate_left
      · intro w hSw; unfold ShowQ at hSw; (try dsimp only at hSw); go_simp; try (with_reducible rfl)
      try simp only [Act.put, List.setIfInBounds_toArray, List.set_cons_zero, List.set_cons_succ]
      refine wpAnyL_take 20 (i := 4) (oi := { dst := some 21, op := Op.fieldAddr 66 (Operand.tmp 5) 2, type := 0, pos := "colours.go:73", after := #[], guard := none }) (v := ?_) rfl (by kernel_rfl) (by kernel_rfl) (by kernel_rfl) (by kernel_rfl) (by kernel_rfl) (fun _ _ _ h => h) (.inl ⟨by rfl, ?_⟩) hQ0 ?_
      rotate_left
      · intro w hSw; unfold ShowQ at hSw; (try dsimp only at hSw); go_simp; try (with_reducible rfl)
      try simp only [Act.put, List.setIfInBounds_toArray, List.set_cons_zero, List.set_cons_succ]
      refine wpAnyL_take 20 (i := 5) (oi := { dst := some 22, op := Op.load 3 (Operand.tmp 21), type := 3, pos := "colours.go:73", after := #[{ on := 4, ground := Ground.data }], guard := none }) (v := ?_) rfl (by kernel_rfl) (by kernel_rfl) (by kernel_rfl) (by kernel_rfl) (by kernel_rfl) (fun _ _ _ h => h) (.inl ⟨by rfl, ?_⟩) hQ0 ?_
      rotate_left
      · intro w hSw; unfold ShowQ at hSw; (try dsimp only at hSw); go_simp; try (with_reducible rfl)
      try simp only [Act.put, List.setIfInBounds_toArray, List.set_cons_zero, List.set_cons_succ]
      refine wpAnyL_take 20 (i := 6) (oi := { dst := some 23, op := Op.indexAddr 79 (Operand.tmp 20) (Operand.tmp 22), type := 0, pos := "colours.go:73", after := #[{ on := 3, ground := Ground.data }, { on := 5, ground := Ground.data }], guard := none }) (v := ?_) rfl (by kernel_rfl) (by kernel_rfl) (by kernel_rfl) (by kernel_rfl) (by kernel_rfl) (fun _ _ _ h => h) (.inl ⟨by rfl, ?_⟩) hQ0 ?_
      rotate_left
      · intro w hSw; unfold ShowQ at hSw; (try dsimp only at hSw); go_simp; try (with_reducible rfl)
      try simp only [Act.put, List.setIfInBounds_toArray, List.set_cons_zero, List.set_cons_succ]
      refine wpAnyL_take 20 (i := 7) (oi := { dst := some 24, op := Op.load 47 (Operand.tmp 23), type := 47, pos := "colours.go:73", after := #[{ on := 6, ground := Ground.data }], guard := none }) (v := ?_) rfl (by kernel_rfl) (by kernel_rfl) (by kernel_rfl) (by kernel_rfl) (by kernel_rfl) (fun _ _ _ h => h) (.inl ⟨by rfl, ?_⟩) hQ0 ?_
      rotate_left
      · intro w hSw; unfold ShowQ at hSw; (try dsimp only at hSw); go_simp; try (with_reducible rfl)
      try simp only [Act.put, List.setIfInBounds_toArray, List.set_cons_zero, List.set_cons_succ]
      refine wpAnyL_take 20 (i := 8) (oi := { dst := some 25, op := Op.move (Operand.tmp 4), type := 3, pos := "colours.go:73", after := #[], guard := none }) (v := ?_) rfl (by kernel_rfl) (by kernel_rfl) (by kernel_rfl) (by kernel_rfl) (by kernel_rfl) (fun _ _ _ h => h) (.inl ⟨by rfl, ?_⟩) hQ0 ?_
      rotate_left
      · intro w hSw; unfold ShowQ at hSw; (try dsimp only at hSw); go_simp; try (with_reducible rfl)
      try simp only [Act.put, List.setIfInBounds_toArray, List.set_cons_zero, List.set_cons_succ]
      refine wpAnyL_one (i := 9) (o := { dst := some 26, op := Op.buildSlice 47 1 #[(0, Operand.tmp 25)], type := 47, pos := "colours.go:73", after := #[{ on := 8, ground := Ground.data }], guard := none }) (by kernel_rfl) rfl (by rfl) (fun K hK => ?_)
      go_simp
      refine hK _ _ (fun _ => hQ0.keep (Below.heap_alloc W4 _ _ hz4) (Below.heap_alloc W4 _ _ hO4)) ?_
      clear hK K
      try simp only [Act.put, List.setIfInBounds_toArray, List.set_cons_zero, List.set_cons_succ]
      refine wpAnyL_one (i := 10) (o := { dst := some 27, op := Op.call { callee := Callee.builtin Builtin.append, args := #[Operand.tmp 24, Operand.tmp 26], argTypes := #[47, 47] }, type := 47, pos := "colours.go:73", after := #[{ on := 7, ground := Ground.data }, { on := 9, ground := Ground.data }], guard := none }) (by kernel_rfl) rfl (by rfl) (fun K hK => ?_)
      refine wp_append_lies _ (.tmp 24) (.tmp 26) 47 rfl (w.heap.size + 1 + 1) 3 i0 (.int .i64 0) 1 8 Try.underlying47 hi0 hz0 hz1 hz2 rfl (by omega) (.slice (A ov) (shL c m ov).length (C ov)) (shL c m ov).length (ints (shL c m ov)) rfl (owns_alloc_drew2 (hS4.out.own ov hovn) _) ⟨W4.heap.size, 0, none⟩ 1 1 [.int .i64 (m : Nat)] rfl rfl ?hnews ?hones (by omega) ?hmx ?hby ?hbs _ rfl ?_
      case hnews => exact one_src (by go_simp)
      case hones => intro u hu; obtain rfl : u = .int .i64 (m : Nat) := by simpa using hu
                    rfl
      case hmx => unfold maxLen; omega
      case hby => omega
      case hbs => have := hS4.out.size; simp; omega
      intro g cap w5 hown5 hgr5 hor5 _
      have hln : (shL c m ov ++ [(m : Int)]).length = (shL c m ov).length + 1 := by simp
      have hint : ints (shL c m ov ++ [(m : Int)]) = ints (shL c m ov) ++ [.int .i64 (m : Nat)] := by simp [ints]
      rw [← hln, ← hint] at hown5
      have hP := hS4.out.put (by omega) ((below_box _).drew) hovn hown5 hgr5 hor5
      rw [hln, ← HSU.out] at hP
      have HP := Lib.hid hP
      have hown4 := hS4.out.own ov hovn
      have hlow5 : ∀ k, k < W4.heap.size → (Value.slice (A ov) (shL c m ov).length (C ov)).ownBlock ≠ some k → w5.heap[k]? = W4.heap[k]? := fun k hk hne => (hgr5.block k (by simp; omega) fun e => hne e.symm).trans (Below.heap_alloc W4 _ k hk)
      have hO5 := hlow5 (w.heap.size + 1) hO4 (fun e => by have := (hox _ e).1; omega)
      have hX5 := hlow5 wr.heap.size hz4 (fun e => by have := (hox _ e).2; omega)
      have hQ5 := hQ0.keep (w' := w5) hX5 hO5
      have e05 := (World.cell?_of_block (a := ⟨w.heap.size + 1, ov, none⟩) hO5).trans e0
      have e15 := (World.frozen?_of_block (a := ⟨w.heap.size + 1, ov, none⟩) hO5).trans e1
      clear hown5 hgr5 hor5 hln hint hP hlow5 hO5 hX5 hown4
      refine hK _ _ (fun _ => hQ5) ?_
      clear hK K
      try simp only [Act.put, List.setIfInBounds_toArray, List.set_cons_zero, List.set_cons_succ]
      refine wpAnyL_take 20 (i := 11) (oi := { dst := some 28, op := Op.indexAddr 79 (Operand.tmp 17) (Operand.tmp 19), type := 0, pos := "colours.go:73", after := #[{ on := 0, ground := Ground.data }, { on := 2, ground := Ground.data }, { on := 0, ground := Ground.phase }, { on := 1, ground := Ground.phase }, { on := 2, ground := Ground.phase }, { on := 3, ground := Ground.phase }, { on := 4, ground := Ground.phase }, { on := 5, ground := Ground.phase }, { on := 6, ground := Ground.phase }, { on := 7, ground := Ground.phase }, { on := 8, ground := Ground.phase }, { on := 9, ground := Ground.phase }, { on := 10, ground := Ground.phase }], guard := none }) (v := ?_) rfl (by kernel_rfl) (by kernel_rfl) (by kernel_rfl) (by kernel_rfl) (by kernel_rfl) (fun _ _ _ h => h) (.inl ⟨by rfl, ?_⟩) (by assumption) ?_
      rotate_left
      · intro w hSw; unfold ShowQ at hSw; (try dsimp only at hSw); go_simp; try (with_reducible rfl)
      try simp only [Act.put, List.setIfInBounds_toArray, List.set_cons_zero, List.set_cons_succ]
      refine wpAnyL_one (i := 12) (o := { dst := none, op := Op.store 47 (Operand.tmp 28) (Operand.tmp 27), type := 0, pos := "colours.go:73", after := #[{ on := 11, ground := Ground.data }, { on := 10, ground := Ground.data }, { on := 10, ground := Ground.chain }, { on := 0, ground := Ground.phase }, { on := 1, ground := Ground.phase }, { on := 2, ground := Ground.phase }, { on := 3, ground := Ground.phase }, { on := 4, ground := Ground.phase }, { on := 5, ground := Ground.phase }, { on := 6, ground := Ground.phase }, { on := 7, ground := Ground.phase }, { on := 8, ground := Ground.phase }, { on := 9, ground := Ground.phase }, { on := 10, ground := Ground.phase }], guard := none }) (by kernel_rfl) rfl (by rfl) (fun K hK => ?_)
      go_simp
      refine hK _ _ (fun hne => absurd rfl hne) ?_
      clear hK K
      try simp only [Act.put, List.setIfInBounds_toArray, List.set_cons_zero, List.set_cons_succ]
      refine wpAnyL_done (by kernel_rfl) ?_ _
      refine NoPanic.normal ?_
      go_wp2_with fail
      go_roundw
      case rel => exact ⟨m + 1, _, _, by omega, by go_num, HP.out⟩
      case measure => simp [intOf]; omega
    · obtain rfl : m = c.crosses.length := by omega
      have hki : ¬ ((c.crosses.length : Int) < (c.crosses.length : Int)) := by omega
      have HSS := Lib.hid hS
      have hz : w.heap.size + 1 < wr.heap.size := by have := hS.size; omega
      clear hS x1
      go_wp2
      go_ret
      exact ⟨w.heap.size + 1, A, C, rfl, by omega, hz, fun k hk => HSS.out.cell hk, ⟨HSS.out.os.trans hBW.os, HSS.out.tape.trans hBW.tape, HSS.out.output.trans hBW.output, by omega, fun b hb => (HSS.out.keep b (by omega) (by omega)).trans (hBW.block b hb)⟩⟩
end Go.Proofs.Ytegbbkmppphddaa
