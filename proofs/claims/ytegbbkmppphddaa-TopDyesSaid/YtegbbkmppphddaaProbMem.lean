/- The program's problem in memory. -/
import Derived.Test.YtegbbkmppphddaaProb
import Derived.Test.YtegbbkmppphddaaClothA
set_option linter.unusedVariables false
set_option linter.unusedSimpArgs false
namespace Go.Proofs.Ytegbbkmppphddaa
open Go.RowKit

def u8s (l : List Nat) : List Value := l.map fun (x : Nat) => .int .u8 (x : Int)
def u64s (l : List Nat) : List Value := l.map fun (x : Nat) => .int .u64 (x : Int)
def PCells (p : Prob) : List Value := u8s p.may ++ (u64s p.unl ++ (ints p.left ++ [.int .i64 (p.many : Int), .bool p.never]))
def ProbAt (w : World) (b : Nat) (p : Prob) : Prop := w.heap[b]? = some (.cells (PCells p).toArray 89 (0, 0)) ∧ p.may.length = 16 ∧ p.unl.length = 16 ∧ p.left.length = 6
theorem ProbAt.lt {w : World} {b : Nat} {p : Prob} (h : ProbAt w b p) : b < w.heap.size := (Array.getElem?_eq_some_iff.1 h.1).1
theorem ProbAt.of_block {w w' : World} {b : Nat} {p : Prob} (h : ProbAt w b p) (e : w'.heap[b]? = w.heap[b]?) : ProbAt w' b p := ⟨e.trans h.1, h.2⟩
theorem ProbAt.below {w w' : World} {B b : Nat} {p : Prob} (h : ProbAt w b p) (hb : Below B w w') (hlt : b < B) : ProbAt w' b p := h.of_block (hb.block b hlt)
theorem ProbAt.frozen {w : World} {b : Nat} {p : Prob} (h : ProbAt w b p) (k : Nat) : w.frozen? ⟨b, k, none⟩ = false := frozen_of_row w b k _ _ h.1
theorem getD_some {α : Type} {l : List α} {k : Nat} (hk : k < l.length) (d : α) : l[k]? = some (l.getD k d) := by rw [List.getD_eq_getElem?_getD, List.getElem?_eq_getElem hk]; rfl
theorem ProbAt.may {w : World} {b : Nat} {p : Prob} (h : ProbAt w b p) {k : Nat} (hk : k < 16) : w.cell? ⟨b, k, none⟩ = some (.int .u8 (p.may.getD k 0 : Nat)) := by
  obtain ⟨h0, h1, h2, h3⟩ := h
  rw [cell_of_row w b k _ _ _ h0, List.getElem?_toArray, PCells, List.getElem?_append_left (by simp [u8s, h1, hk]), u8s, List.getElem?_map, getD_some (by omega) 0]
  rfl
theorem ProbAt.unl {w : World} {b : Nat} {p : Prob} (h : ProbAt w b p) {k : Nat} (hk : k < 16) : w.cell? ⟨b, 16 + k, none⟩ = some (.int .u64 (p.unl.getD k 0 : Nat)) := by
  obtain ⟨h0, h1, h2, h3⟩ := h
  rw [cell_of_row w b (16 + k) _ _ _ h0, List.getElem?_toArray, PCells, List.getElem?_append_right (by simp [u8s, h1]), show 16 + k - (u8s p.may).length = k by simp [u8s, h1],
    List.getElem?_append_left (by simp [u64s, h2, hk]), u64s, List.getElem?_map, getD_some (by omega) 0]
  rfl
theorem ProbAt.left {w : World} {b : Nat} {p : Prob} (h : ProbAt w b p) {k : Nat} (hk : k < 6) : w.cell? ⟨b, 32 + k, none⟩ = some (.int .i64 (p.left.getD k 0)) := by
  obtain ⟨h0, h1, h2, h3⟩ := h
  rw [cell_of_row w b (32 + k) _ _ _ h0, List.getElem?_toArray, PCells, List.getElem?_append_right (by simp [u8s, h1]; omega), show 32 + k - (u8s p.may).length = 16 + k by simp [u8s, h1]; omega,
    List.getElem?_append_right (by simp [u64s, h2]), show 16 + k - (u64s p.unl).length = k by simp [u64s, h2],
    List.getElem?_append_left (by simp [ints, h3, hk]), ints, List.getElem?_map, getD_some (by omega) 0]
  rfl
theorem ProbAt.many {w : World} {b : Nat} {p : Prob} (h : ProbAt w b p) : w.cell? ⟨b, 38, none⟩ = some (.int .i64 (p.many : Int)) := by
  obtain ⟨h0, h1, h2, h3⟩ := h
  rw [cell_of_row w b 38 _ _ _ h0, List.getElem?_toArray, PCells]
  simp [u8s, u64s, ints, h1, h2, h3, List.getElem?_append_right]
theorem ProbAt.never {w : World} {b : Nat} {p : Prob} (h : ProbAt w b p) : w.cell? ⟨b, 39, none⟩ = some (.bool p.never) := by
  obtain ⟨h0, h1, h2, h3⟩ := h
  rw [cell_of_row w b 39 _ _ _ h0, List.getElem?_toArray, PCells]
  simp [u8s, u64s, ints, h1, h2, h3, List.getElem?_append_right]

theorem ProbAt.setMay {w : World} {b : Nat} {p : Prob} (h : ProbAt w b p) {k : Nat} (hk : k < 16) (x : Nat) : ProbAt (w.setCell ⟨b, k, none⟩ (.int .u8 (x : Int))) b { p with may := p.may.set k x } := by
  obtain ⟨h0, h1, h2, h3⟩ := h
  refine ⟨?_, by simp [h1], h2, h3⟩
  rw [heap_setCell_same w b k _ _ _ h0]
  simp only [PCells, List.setIfInBounds_toArray]
  rw [List.set_append_left _ _ (by simp [u8s, h1, hk])]
  simp [u8s, List.map_set]
theorem ProbAt.setUnl {w : World} {b : Nat} {p : Prob} (h : ProbAt w b p) {k : Nat} (hk : k < 16) (x : Nat) : ProbAt (w.setCell ⟨b, 16 + k, none⟩ (.int .u64 (x : Int))) b { p with unl := p.unl.set k x } := by
  obtain ⟨h0, h1, h2, h3⟩ := h
  refine ⟨?_, h1, by simp [h2], h3⟩
  rw [heap_setCell_same w b (16 + k) _ _ _ h0]
  simp only [PCells, List.setIfInBounds_toArray]
  rw [List.set_append_right _ _ (by simp [u8s, h1]), show 16 + k - (u8s p.may).length = k by simp [u8s, h1], List.set_append_left _ _ (by simp [u64s, h2, hk])]
  simp [u64s, List.map_set]
theorem ProbAt.setLeft {w : World} {b : Nat} {p : Prob} (h : ProbAt w b p) {k : Nat} (hk : k < 6) (x : Int) : ProbAt (w.setCell ⟨b, 32 + k, none⟩ (.int .i64 x)) b { p with left := p.left.set k x } := by
  obtain ⟨h0, h1, h2, h3⟩ := h
  refine ⟨?_, h1, h2, by simp [h3]⟩
  rw [heap_setCell_same w b (32 + k) _ _ _ h0]
  simp only [PCells, List.setIfInBounds_toArray]
  rw [List.set_append_right _ _ (by simp [u8s, h1]; omega), show 32 + k - (u8s p.may).length = 16 + k by simp [u8s, h1]; omega,
    List.set_append_right _ _ (by simp [u64s, h2]), show 16 + k - (u64s p.unl).length = k by simp [u64s, h2], List.set_append_left _ _ (by simp [ints, h3, hk])]
  simp [ints, List.map_set]
theorem ProbAt.setNever {w : World} {b : Nat} {p : Prob} (h : ProbAt w b p) (x : Bool) : ProbAt (w.setCell ⟨b, 39, none⟩ (.bool x)) b { p with never := x } := by
  obtain ⟨h0, h1, h2, h3⟩ := h
  refine ⟨?_, h1, h2, h3⟩
  rw [heap_setCell_same w b 39 _ _ _ h0]
  simp only [PCells, List.setIfInBounds_toArray]
  rw [List.set_append_right _ _ (by simp [u8s, h1]), show 39 - (u8s p.may).length = 23 by simp [u8s, h1],
    List.set_append_right _ _ (by simp [u64s, h2]), show 23 - (u64s p.unl).length = 7 by simp [u64s, h2], List.set_append_right _ _ (by simp [ints, h3]), show 7 - (ints p.left).length = 1 by simp [ints, h3]]
  simp
theorem ProbAt.mays {w : World} {b : Nat} {p : Prob} (h : ProbAt w b p) : w.rangeAt b 0 (u8s p.may) := fun j v hv => by
  have hj : j < 16 := by have := (List.getElem?_eq_some_iff.1 hv).1; simpa [u8s, h.2.1] using this
  rw [Nat.zero_add, h.may hj]
  rw [u8s, List.getElem?_map, getD_some (by rw [h.2.1]; exact hj) 0] at hv
  simpa using hv
theorem ProbAt.there {w : World} {b : Nat} {p : Prob} (h : ProbAt w b p) {n : Nat} (hn : n = 16) : w.there b 0 n := fun j hj => by
  rw [Nat.zero_add]
  exact ⟨by rw [h.may (by omega)]; rfl, h.frozen j⟩
theorem ProbAt.setMays {w : World} {b : Nat} {p : Prob} (h : ProbAt w b p) {m : List Nat} (hm : m.length = 16) : ProbAt (w.setCells b 0 (u8s m)) b { p with may := m } := by
  obtain ⟨h0, h1, h2, h3⟩ := h
  refine ⟨?_, hm, h2, h3⟩
  rw [setCells_whole (u8s m) (PCells p) w b 0 h0 (by simp [PCells, u8s, hm, h1])]
  simp [PCells, u8s, hm, h1]
theorem info_u8s : (Try.prog.info? 86).map (·.size) = some 16 := by kernel_rfl
theorem und_u8s : Try.prog.underlying 86 = some (.array 16 5) := by kernel_rfl
theorem u8s_length (l : List Nat) : (u8s l).length = l.length := by simp [u8s]
theorem u8s_ones (l : List Nat) : (u8s l).toArray.all (·.oneCell') = true := by
  rw [Array.all_eq_true_iff_forall_mem]
  intro u hu
  simp only [u8s, List.mem_toArray, List.mem_map] at hu
  obtain ⟨x, -, rfl⟩ := hu
  rfl
end Go.Proofs.Ytegbbkmppphddaa
