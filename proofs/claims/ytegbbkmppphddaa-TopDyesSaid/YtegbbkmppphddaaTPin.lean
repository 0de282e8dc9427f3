/- The program's Crossings at a word, and the closure of Make that puts a pin. -/
import Derived.Test.YtegbbkmppphddaaTMk
set_option linter.unusedVariables false
set_option linter.unusedSimpArgs false
namespace Go.Proofs.Ytegbbkmppphddaa
open Go.RowKit

theorem one_char (wd : ByteArray) (k : Nat) (h : k < wd.size) : (wd.extract k (k + 1)).data.toList = [wd[k]] := by
  have h2 : k < wd.data.toList.length := by simpa using h
  rw [ByteArray.data_extract, Array.toList_extract, List.extract_eq_take_drop]
  have : k + 1 - k = 1 := by omega
  rw [this, List.drop_eq_getElem_cons h2]
  simp
  rfl
theorem one_char_ok {wd : ByteArray} (h0 : wordB wd = 0) {k : Nat} (h : k < wd.size) : wordB (wd.extract k (k + 1)) = 0 ∧ crossW (wd.extract k (k + 1)).data.toList = crossB wd[k] := by
  rw [one_char wd k h]
  have hall : wd.data.toList.all isLetter = true := by
    unfold wordB at h0
    split at h0
    · omega
    · split at h0
      · assumption
      · omega
  have hlt : isLetter wd[k] = true := List.all_eq_true.1 hall _ (by rw [ba_elem]; exact List.getElem_mem _)
  have hsz : (wd.extract k (k + 1)).size = 1 := by
    simp; omega
  refine ⟨?_, by simp [crossW]⟩
  unfold wordB
  rw [if_neg (by omega), one_char wd k h]
  simp [hlt]
set_option maxHeartbeats 400000 in
theorem progCrossings_any {w : World} (s : ByteArray) (h : wordB s = 0) :
    Calls Try.prog 18 #[.string s] w fun e w' => ∃ A c, e = .returned (.tuple #[.slice A (crossW s.data.toList).length c, .int .i64 0]) ∧ IntsRd w' A c (crossW s.data.toList) ∧ (∀ b off, A = some ⟨b, off, none⟩ → w.heap.size ≤ b) ∧ Below w.heap.size w w' := by
  have hs : s.size ≤ 16 := by
    unfold wordB at h
    split at h
    · omega
    · omega
  have H := Lib.hid h
  clear h
  go_enter Try.func18, Try.ntmps18
  go_wp2_with fail
  refine (word_any s (by omega)).mono ?_
  rintro e w2 ⟨rfl, rfl⟩
  rw [H.out]
  go_wp2_with fail
  refine (progcross_any s hs).mono ?_
  rintro e w2 ⟨A, c, rfl, hO, hA, hb2⟩
  go_wp2_with fail
  go_ret2
  exact ⟨A, c, rfl, hO, hA, hb2⟩

theorem info_pin : (Try.prog.info? 63).map (fun i => (i.zero, i.size, i.bytes)) = some (some (.agg #[.int .i64 0, .int .i64 0, .int .i64 0, .int .i64 0]), 4, 32) := by kernel_rfl
theorem info_cross : (Try.prog.info? 66).map (fun i => (i.zero, i.size, i.bytes)) = some (some (.agg #[.int .i64 0, .int .i64 0, .int .i64 0, .int .i64 0]), 4, 32) := by kernel_rfl
theorem lit_four (w : World) (a b c d : Value) (ty : TypeId) : ∀ j u, ([a, b, c, d] : List Value)[j]? = some u → (w.alloc (.cells #[a, b, c, d] ty)).cell? ((⟨w.heap.size, 0, none⟩ : Addr).add j) = some u := by
  intro j u h
  have hj : j < 4 := by have := (List.getElem?_eq_some_iff.1 h).1; simpa using this
  have hj' : j = 0 ∨ j = 1 ∨ j = 2 ∨ j = 3 := by omega
  rcases hj' with rfl | rfl | rfl | rfl
  all_goals
    simp at h
    subst h
    simp [Addr.add]
theorem owns_alloc_drew2 {w : World} {base e sz n : Nat} {v : Value} {xs : List Value} (h : w.ownsRow base e sz v n xs) (o : Obj) : ((w.alloc o).drew).ownsRow base e sz v n xs := h.alloc o
def PinQ (CB IB MB LB m : Nat) (A : Option Addr) (c : Nat) (i : Int) (mid : Nat) (x y : Int) (w : World) : Prop :=
  w.cell? ⟨CB, 2, none⟩ = some (.slice A m c) ∧ w.cell? ⟨IB, 0, none⟩ = some (.int .i64 i) ∧ w.cell? ⟨MB, 0, none⟩ = some (.int .i64 (mid : Nat)) ∧ w.cell? ⟨LB, mid, none⟩ = some (.int .i64 x) ∧ w.cell? ⟨LB, mid + 1, none⟩ = some (.int .i64 y)
theorem PinQ.keep {CB IB MB LB m : Nat} {A : Option Addr} {c : Nat} {i : Int} {mid : Nat} {x y : Int} {w w' : World} (h : PinQ CB IB MB LB m A c i mid x y w) (h1 : w'.heap[CB]? = w.heap[CB]?) (h2 : w'.heap[IB]? = w.heap[IB]?) (h3 : w'.heap[MB]? = w.heap[MB]?) (h4 : w'.heap[LB]? = w.heap[LB]?) : PinQ CB IB MB LB m A c i mid x y w' :=
  ⟨(World.cell?_of_block (a := ⟨CB, 2, none⟩) h1).trans h.1, (World.cell?_of_block (a := ⟨IB, 0, none⟩) h2).trans h.2.1, (World.cell?_of_block (a := ⟨MB, 0, none⟩) h3).trans h.2.2.1, (World.cell?_of_block (a := ⟨LB, mid, none⟩) h4).trans h.2.2.2.1, (World.cell?_of_block (a := ⟨LB, mid + 1, none⟩) h4).trans h.2.2.2.2⟩
def PinPost (W0 W1 : World) (B0 CB LB : Nat) (S : List Nat) (th : Int) (s : MkS) (cA : Option Addr) (cc : Nat) (e : Ending) (w' : World) : Prop :=
  e = .returned (.tuple #[]) ∧ ∃ pA pc, MkP W0 W1 w' B0 CB LB S th s cA cc pA pc

set_option maxRecDepth 100000 in
set_option maxHeartbeats 2000000 in
theorem pin_any {W0 W1 w : World} {B0 CB LB : Nat} {S : List Nat} {th : Int} {s : MkS} {cA : Option Addr} {cc : Nat} {pA : Option Addr} {pc : Nat} (h : MkP W0 W1 w B0 CB LB S th s cA cc pA pc) (hCB : CB < B0) (hLB : LB < B0) (hne : CB ≠ LB)
    {IB MB : Nat} (hI : IB ∈ S) (hM : MB ∈ S) {i : Int} {mid : Nat} (ci : w.cell? ⟨IB, 0, none⟩ = some (.int .i64 i)) (cm : w.cell? ⟨MB, 0, none⟩ = some (.int .i64 (mid : Nat))) (hmid : mid + 1 < 48) (hsz : s.pins.length ≤ 100000) :
    Calls Try.prog 17 (#[] ++ #[.pointer (some ⟨CB, 0, none⟩), .pointer (some ⟨IB, 0, none⟩), .pointer (some ⟨MB, 0, none⟩), .pointer (some ⟨LB, 0, none⟩)]) w (PinPost W0 W1 B0 CB LB S th (pinS i (mid : Nat) s) cA cc) := by
  obtain ⟨i0, hi0, hz0, hz1, hz2⟩ := info_parts info_pin
  obtain ⟨bI1, bI2, -, -, bI5⟩ := h.boxes IB hI
  obtain ⟨bM1, bM2, -, -, bM5⟩ := h.boxes MB hM
  have hsB := h.size
  have l0 := h.line.cell (k := mid) (by omega)
  have l1 := h.line.cell (k := mid + 1) hmid
  have c2 := h.c2
  have hfz := h.fr 2
  have hPE : Hid (pinS i (mid : Nat) s = { s with pins := s.pins ++ [⟨i, (mid : Nat), s.line.getD mid 0, s.line.getD (mid + 1) 0⟩] }) := by unfold pinS; rfl
  have H := Lib.hid h
  have BI5 := Lib.hid bI5
  have BM5 := Lib.hid bM5
  clear h bI5 bM5
  generalize s.line.getD mid 0 = x at *
  generalize s.line.getD (mid + 1) 0 = y at *
  have hS0 : PinQ CB IB MB LB s.pins.length pA pc i mid x y w.drew := ⟨c2, ci, cm, l0, l1⟩
  have hfa : ∀ o, PinQ CB IB MB LB s.pins.length pA pc i mid x y ((w.alloc (.cells #[.int .i64 i, .int .i64 (mid : Nat), .int .i64 x, .int .i64 y] o)).drew) := fun o =>
    hS0.keep (Below.heap_alloc w _ _ (by omega)) (Below.heap_alloc w _ _ bI2) (Below.heap_alloc w _ _ bM2) (Below.heap_alloc w _ _ (by omega))
  have HFA := Lib.hid hfa
  clear hfa
  have hmi : (mid : Int) < 48 := by omega
  have hmi2 : (mid : Int) + 1 < 48 := by omega
  have hw1 : IntKind.i64.wrap ((mid : Int) + 1) = (mid : Int) + 1 := IntWalk.i64_in _ (by omega)
  have hw2 : 0 ≤ (mid : Int) + 1 := by omega
  have hw3 : ((mid : Int) + 1).toNat = mid + 1 := by omega
  go_enter Try.func17, Try.ntmps17
  go_wp2
  refine wp_region_noPanic ?_
  refine wp_region_L (S := (PinQ CB IB MB LB s.pins.length pA pc i mid x y)) (L := 15) (by kernel_rfl) ?_
  refine wpAnyL_take 20 (i := 0) (oi := { dst := some 4, op := Op.fieldAddr 36 (Operand.tmp 0) 2, type := 0, pos := "cloth.go:37", after := #[], guard := none }) (v := ?_) rfl (by kernel_rfl) (by kernel_rfl) (by kernel_rfl) (by kernel_rfl) (by kernel_rfl) (fun _ _ _ h => h) (.inl ⟨by rfl, ?_⟩) hS0 ?_
  rotate_left
  · intro w hSw; unfold PinQ at hSw; (try dsimp only at hSw); go_simp; try (with_reducible rfl)
  try simp only [Act.put, List.setIfInBounds_toArray, List.set_cons_zero, List.set_cons_succ]
  refine wpAnyL_take 20 (i := 1) (oi := { dst := some 5, op := Op.load 34 (Operand.tmp 4), type := 34, pos := "cloth.go:37", after := #[{ on := 0, ground := Ground.data }], guard := none }) (v := ?_) rfl (by kernel_rfl) (by kernel_rfl) (by kernel_rfl) (by kernel_rfl) (by kernel_rfl) (fun _ _ _ h => h) (.inl ⟨by rfl, ?_⟩) hS0 ?_
  rotate_left
  · intro w hSw; unfold PinQ at hSw; (try dsimp only at hSw); go_simp; try (with_reducible rfl)
  try simp only [Act.put, List.setIfInBounds_toArray, List.set_cons_zero, List.set_cons_succ]
  refine wpAnyL_take 20 (i := 2) (oi := { dst := some 6, op := Op.load 3 (Operand.tmp 1), type := 3, pos := "cloth.go:37", after := #[], guard := none }) (v := ?_) rfl (by kernel_rfl) (by kernel_rfl) (by kernel_rfl) (by kernel_rfl) (by kernel_rfl) (fun _ _ _ h => h) (.inl ⟨by rfl, ?_⟩) hS0 ?_
  rotate_left
  · intro w hSw; unfold PinQ at hSw; (try dsimp only at hSw); go_simp; try (with_reducible rfl)
  try simp only [Act.put, List.setIfInBounds_toArray, List.set_cons_zero, List.set_cons_succ]
  refine wpAnyL_take 20 (i := 3) (oi := { dst := some 7, op := Op.load 3 (Operand.tmp 2), type := 3, pos := "cloth.go:37", after := #[], guard := none }) (v := ?_) rfl (by kernel_rfl) (by kernel_rfl) (by kernel_rfl) (by kernel_rfl) (by kernel_rfl) (fun _ _ _ h => h) (.inl ⟨by rfl, ?_⟩) hS0 ?_
  rotate_left
  · intro w hSw; unfold PinQ at hSw; (try dsimp only at hSw); go_simp; try (with_reducible rfl)
  try simp only [Act.put, List.setIfInBounds_toArray, List.set_cons_zero, List.set_cons_succ]
  refine wpAnyL_take 20 (i := 4) (oi := { dst := some 8, op := Op.load 3 (Operand.tmp 2), type := 3, pos := "cloth.go:37", after := #[], guard := none }) (v := ?_) rfl (by kernel_rfl) (by kernel_rfl) (by kernel_rfl) (by kernel_rfl) (by kernel_rfl) (fun _ _ _ h => h) (.inl ⟨by rfl, ?_⟩) hS0 ?_
  rotate_left
  · intro w hSw; unfold PinQ at hSw; (try dsimp only at hSw); go_simp; try (with_reducible rfl)
  try simp only [Act.put, List.setIfInBounds_toArray, List.set_cons_zero, List.set_cons_succ]
  refine wpAnyL_take 20 (i := 5) (oi := { dst := some 9, op := Op.indexAddr 60 (Operand.tmp 3) (Operand.tmp 8), type := 0, pos := "cloth.go:37", after := #[{ on := 4, ground := Ground.data }], guard := none }) (v := ?_) rfl (by kernel_rfl) (by kernel_rfl) (by kernel_rfl) (by kernel_rfl) (by kernel_rfl) (fun _ _ _ h => h) (.inl ⟨by rfl, ?_⟩) hS0 ?_
  rotate_left
  · intro w hSw; unfold PinQ at hSw; (try dsimp only at hSw); go_simp; try (with_reducible rfl)
  try simp only [Act.put, List.setIfInBounds_toArray, List.set_cons_zero, List.set_cons_succ]
  refine wpAnyL_take 20 (i := 6) (oi := { dst := some 10, op := Op.load 3 (Operand.tmp 9), type := 3, pos := "cloth.go:37", after := #[{ on := 5, ground := Ground.data }], guard := none }) (v := ?_) rfl (by kernel_rfl) (by kernel_rfl) (by kernel_rfl) (by kernel_rfl) (by kernel_rfl) (fun _ _ _ h => h) (.inl ⟨by rfl, ?_⟩) hS0 ?_
  rotate_left
  · intro w hSw; unfold PinQ at hSw; (try dsimp only at hSw); go_simp; try (with_reducible rfl)
  try simp only [Act.put, List.setIfInBounds_toArray, List.set_cons_zero, List.set_cons_succ]
  refine wpAnyL_take 20 (i := 7) (oi := { dst := some 11, op := Op.load 3 (Operand.tmp 2), type := 3, pos := "cloth.go:37", after := #[], guard := none }) (v := ?_) rfl (by kernel_rfl) (by kernel_rfl) (by kernel_rfl) (by kernel_rfl) (by kernel_rfl) (fun _ _ _ h => h) (.inl ⟨by rfl, ?_⟩) hS0 ?_
  rotate_left
  · intro w hSw; unfold PinQ at hSw; (try dsimp only at hSw); go_simp; try (with_reducible rfl)
  try simp only [Act.put, List.setIfInBounds_toArray, List.set_cons_zero, List.set_cons_succ]
  refine wpAnyL_take 20 (i := 8) (oi := { dst := some 12, op := Op.binOp BinOp.add 3 (Operand.tmp 11) (Operand.const (Value.int IntKind.i64 1)) 3, type := 3, pos := "cloth.go:37", after := #[{ on := 7, ground := Ground.data }], guard := none }) (v := ?_) rfl (by kernel_rfl) (by kernel_rfl) (by kernel_rfl) (by kernel_rfl) (by kernel_rfl) (fun _ _ _ h => h) (.inl ⟨by rfl, ?_⟩) hS0 ?_
  rotate_left
  · intro w hSw; unfold PinQ at hSw; (try dsimp only at hSw); go_simp; try (with_reducible rfl)
  try simp only [Act.put, List.setIfInBounds_toArray, List.set_cons_zero, List.set_cons_succ]
  refine wpAnyL_take 20 (i := 9) (oi := { dst := some 13, op := Op.indexAddr 60 (Operand.tmp 3) (Operand.tmp 12), type := 0, pos := "cloth.go:37", after := #[{ on := 8, ground := Ground.data }], guard := none }) (v := ?_) rfl (by kernel_rfl) (by kernel_rfl) (by kernel_rfl) (by kernel_rfl) (by kernel_rfl) (fun _ _ _ h => h) (.inl ⟨by rfl, ?_⟩) hS0 ?_
  rotate_left
  · intro w hSw; unfold PinQ at hSw; (try dsimp only at hSw); go_simp; try (with_reducible rfl)
  try simp only [Act.put, List.setIfInBounds_toArray, List.set_cons_zero, List.set_cons_succ]
  refine wpAnyL_take 20 (i := 10) (oi := { dst := some 14, op := Op.load 3 (Operand.tmp 13), type := 3, pos := "cloth.go:37", after := #[{ on := 9, ground := Ground.data }], guard := none }) (v := ?_) rfl (by kernel_rfl) (by kernel_rfl) (by kernel_rfl) (by kernel_rfl) (by kernel_rfl) (fun _ _ _ h => h) (.inl ⟨by rfl, ?_⟩) hS0 ?_
  rotate_left
  · intro w hSw; unfold PinQ at hSw; (try dsimp only at hSw); go_simp; try (with_reducible rfl)
  try simp only [Act.put, List.setIfInBounds_toArray, List.set_cons_zero, List.set_cons_succ]
  refine wpAnyL_take 20 (i := 11) (oi := { dst := some 15, op := Op.build 63 #[(0, Operand.tmp 6), (1, Operand.tmp 7), (2, Operand.tmp 10), (3, Operand.tmp 14)], type := 63, pos := "cloth.go:37", after := #[{ on := 2, ground := Ground.data }, { on := 3, ground := Ground.data }, { on := 6, ground := Ground.data }, { on := 10, ground := Ground.data }], guard := none }) (v := ?_) rfl (by kernel_rfl) (by kernel_rfl) (by kernel_rfl) (by kernel_rfl) (by kernel_rfl) (fun _ _ _ h => h) (.inl ⟨by rfl, ?_⟩) hS0 ?_
  rotate_left
  · intro w hSw; unfold PinQ at hSw; (try dsimp only at hSw); go_simp; try (with_reducible rfl)
  try simp only [Act.put, List.setIfInBounds_toArray, List.set_cons_zero, List.set_cons_succ]
  refine wpAnyL_one (i := 12) (o := { dst := some 16, op := Op.buildSlice 34 1 #[(0, Operand.tmp 15)], type := 34, pos := "cloth.go:37", after := #[{ on := 11, ground := Ground.data }], guard := none }) (by kernel_rfl) rfl (by rfl) (fun K hK => ?_)
  go_simp
  refine hK _ _ (fun _ => HFA.out _) ?_
  clear hK K
  try simp only [Act.put, List.setIfInBounds_toArray, List.set_cons_zero, List.set_cons_succ]
  refine wpAnyL_one (i := 13) (o := { dst := some 17, op := Op.call { callee := Callee.builtin Builtin.append, args := #[Operand.tmp 5, Operand.tmp 16], argTypes := #[34, 34] }, type := 34, pos := "cloth.go:37", after := #[{ on := 1, ground := Ground.data }, { on := 12, ground := Ground.data }], guard := none }) (by kernel_rfl) rfl (by rfl) (fun K hK => ?_)
  refine wp_append_lies _ (.tmp 5) (.tmp 16) 34 rfl B0 63 i0 (.agg #[.int .i64 0, .int .i64 0, .int .i64 0, .int .i64 0]) 4 32 Try.underlying34 hi0 hz0 hz1 hz2 rfl (by omega) (.slice pA s.pins.length pc) s.pins.length (pinCells s.pins) rfl (owns_alloc_drew2 H.out.pins _) ⟨w.heap.size, 0, none⟩ 1 1 [.int .i64 i, .int .i64 (mid : Nat), .int .i64 x, .int .i64 y] rfl rfl ?hnews ?hones (by omega) ?hmx ?hby ?hbs _ rfl ?_
  case hnews => exact lit_four w _ _ _ _ _
  case hones => exact pin_ones ⟨i, (mid : Nat), x, y⟩
  case hmx => unfold maxLen; omega
  case hby => omega
  case hbs => simp; omega
  intro g' cap w3 hown3 hgr3 hor3 _
  have hM3 := Lib.hid (H.out.pin hCB hLB hne ((below_box _).drew) ⟨i, (mid : Nat), x, y⟩ hown3 hgr3 hor3)
  have hlow : ∀ b, b < w.heap.size → (Value.slice pA s.pins.length pc).ownBlock ≠ some b → w3.heap[b]? = w.heap[b]? := fun b hb hn => (hgr3.block b (by simp; omega) fun e => hn e.symm).trans (Below.heap_alloc w _ b hb)
  have hC3 := hlow CB (by omega) (fun e => by have := (H.out.pins.lt CB e).1; omega)
  have hL3 := hlow LB (by omega) (fun e => by have := (H.out.pins.lt LB e).1; omega)
  have hS3 : PinQ CB IB MB LB s.pins.length pA pc i mid x y w3 := hS0.keep hC3 (hlow IB bI2 BI5.out) (hlow MB bM2 BM5.out) hL3
  have hc3 := (World.cell?_of_block (a := ⟨CB, 2, none⟩) hC3).trans H.out.c2
  have hf3 := (World.frozen?_of_block (a := ⟨CB, 2, none⟩) hC3).trans hfz
  clear hown3 hgr3 hor3 hlow hC3 hL3
  refine hK _ _ (fun _ => hS3) ?_
  clear hK K
  try simp only [Act.put, List.setIfInBounds_toArray, List.set_cons_zero, List.set_cons_succ]
  refine wpAnyL_take 20 (i := 14) (oi := { dst := some 18, op := Op.fieldAddr 36 (Operand.tmp 0) 2, type := 0, pos := "cloth.go:37", after := #[{ on := 0, ground := Ground.phase }, { on := 1, ground := Ground.phase }, { on := 2, ground := Ground.phase }, { on := 3, ground := Ground.phase }, { on := 4, ground := Ground.phase }, { on := 5, ground := Ground.phase }, { on := 6, ground := Ground.phase }, { on := 7, ground := Ground.phase }, { on := 8, ground := Ground.phase }, { on := 9, ground := Ground.phase }, { on := 10, ground := Ground.phase }, { on := 11, ground := Ground.phase }, { on := 12, ground := Ground.phase }, { on := 13, ground := Ground.phase }], guard := none }) (v := ?_) rfl (by kernel_rfl) (by kernel_rfl) (by kernel_rfl) (by kernel_rfl) (by kernel_rfl) (fun _ _ _ h => h) (.inl ⟨by rfl, ?_⟩) (by assumption) ?_
  rotate_left
  · intro w hSw; unfold PinQ at hSw; (try dsimp only at hSw); go_simp; try (with_reducible rfl)
  try simp only [Act.put, List.setIfInBounds_toArray, List.set_cons_zero, List.set_cons_succ]
  refine wpAnyL_one (i := 15) (o := { dst := none, op := Op.store 34 (Operand.tmp 18) (Operand.tmp 17), type := 0, pos := "cloth.go:37", after := #[{ on := 14, ground := Ground.data }, { on := 13, ground := Ground.data }, { on := 13, ground := Ground.chain }, { on := 0, ground := Ground.phase }, { on := 1, ground := Ground.phase }, { on := 2, ground := Ground.phase }, { on := 3, ground := Ground.phase }, { on := 4, ground := Ground.phase }, { on := 5, ground := Ground.phase }, { on := 6, ground := Ground.phase }, { on := 7, ground := Ground.phase }, { on := 8, ground := Ground.phase }, { on := 9, ground := Ground.phase }, { on := 10, ground := Ground.phase }, { on := 11, ground := Ground.phase }, { on := 12, ground := Ground.phase }, { on := 13, ground := Ground.phase }], guard := none }) (by kernel_rfl) rfl (by rfl) (fun K hK => ?_)
  go_simp
  refine hK _ _ (fun hne => absurd rfl hne) ?_
  clear hK K
  try simp only [Act.put, List.setIfInBounds_toArray, List.set_cons_zero, List.set_cons_succ]
  refine wpAnyL_done (by kernel_rfl) ?_ _
  refine NoPanic.normal ?_
  go_end0
  rw [hPE.out]
  exact ⟨rfl, _, _, hM3.out⟩
end Go.Proofs.Ytegbbkmppphddaa
