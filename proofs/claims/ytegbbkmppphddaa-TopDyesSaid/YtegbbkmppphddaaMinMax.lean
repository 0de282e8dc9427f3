/- slices.Min, slices.Max over ints. -/
import Derived.Test.YtegbbkmppphddaaBase
import Derived.Lib.Hide
import Derived.Deep.LoopGhost
set_option linter.unusedVariables false
set_option linter.unusedSimpArgs false
namespace Go.Proofs.Ytegbbkmppphddaa
open Go.RowKit

def MinPost (w : World) (l : List Int) (e : Ending) (w' : World) : Prop := ∃ v, e = .returned (.int .i64 v) ∧ v ∈ l ∧ (∀ x ∈ l, v ≤ x) ∧ Below w.heap.size w w'
def MaxPost (w : World) (l : List Int) (e : Ending) (w' : World) : Prop := ∃ v, e = .returned (.int .i64 v) ∧ v ∈ l ∧ (∀ x ∈ l, x ≤ v) ∧ Below w.heap.size w w'

set_option maxHeartbeats 1000000 in
theorem min_any {w : World} {A : Option Addr} {cap : Nat} {l : List Int} (h : IntsRd w A cap l) (h0 : 0 < l.length) :
    Calls Try.prog 25 #[.slice A l.length cap] w (MinPost w l) := by
  have hl := h.len
  have hm := h.cap
  unfold maxLen at hm
  obtain ⟨b, off, rfl, hb, k0⟩ := h.rows.int h0
  rw [Nat.add_zero] at k0
  go_enter Try.func25, Try.ntmps25
  have hlt1 : ¬ ((l.length : Int) < 1) := by omega
  go_wp2
  go_loopw [3, 4] (fun v i wr => ∃ (k : Nat) (x : Int), 1 ≤ k ∧ k ≤ l.length ∧ i = .int .i64 k ∧ v = .int .i64 x ∧ x ∈ l ∧ (∀ j (hj : j < l.length), j < k → x ≤ l[j]) ∧ wr = w) (fun _ i _ => l.length - (intOf i).toNat)
  case atStart => exact ⟨1, l[0], by omega, h0, rfl, rfl, List.getElem_mem _, fun j hj hk => (by
    obtain rfl : j = 0 := by omega
    exact Int.le_refl _), rfl⟩
  case round =>
    obtain ⟨k, x, hk1, hk, rfl, rfl, hx, hall, rfl⟩ := hrel
    by_cases hlt : k < l.length
    · obtain ⟨b', off', he, hb', kk⟩ := h.rows.int hlt
      obtain ⟨rfl, rfl⟩ : b' = b ∧ off' = off := by cases he; exact ⟨rfl, rfl⟩
      have HX := Lib.hid hx
      have HALL := Lib.hid hall
      have HM := Lib.hid (List.getElem_mem hlt)
      clear hx hall
      by_cases hc : l[k] < x
      · go_wp2
        go_roundw
        case rel =>
          refine ⟨k + 1, l[k], by omega, by omega, by go_num, rfl, HM.out, fun j hj hjk => ?_, trivial⟩
          by_cases e : j = k
          · subst e; exact Int.le_refl _
          · exact Int.le_trans (Int.le_of_lt hc) (HALL.out j hj (by omega))
        case measure => simp [intOf]; omega
      · go_wp2
        go_roundw
        case rel =>
          refine ⟨k + 1, x, by omega, by omega, by go_num, rfl, HX.out, fun j hj hjk => ?_, trivial⟩
          by_cases e : j = k
          · subst e; exact Int.not_lt.1 hc
          · exact HALL.out j hj (by omega)
        case measure => simp [intOf]; omega
    · obtain rfl : k = l.length := by omega
      go_wp2
      go_ret
      exact ⟨x, rfl, hx, fun y hy => by
        obtain ⟨j, hj, rfl⟩ := List.getElem_of_mem hy
        exact hall j hj hj, Below.refl _ _⟩

set_option maxHeartbeats 1000000 in
theorem max_any {w : World} {A : Option Addr} {cap : Nat} {l : List Int} (h : IntsRd w A cap l) (h0 : 0 < l.length) :
    Calls Try.prog 26 #[.slice A l.length cap] w (MaxPost w l) := by
  have hl := h.len
  have hm := h.cap
  unfold maxLen at hm
  obtain ⟨b, off, rfl, hb, k0⟩ := h.rows.int h0
  rw [Nat.add_zero] at k0
  go_enter Try.func26, Try.ntmps26
  have hlt1 : ¬ ((l.length : Int) < 1) := by omega
  go_wp2
  go_loopw [3, 4] (fun v i wr => ∃ (k : Nat) (x : Int), 1 ≤ k ∧ k ≤ l.length ∧ i = .int .i64 k ∧ v = .int .i64 x ∧ x ∈ l ∧ (∀ j (hj : j < l.length), j < k → l[j] ≤ x) ∧ wr = w) (fun _ i _ => l.length - (intOf i).toNat)
  case atStart => exact ⟨1, l[0], by omega, h0, rfl, rfl, List.getElem_mem _, fun j hj hk => (by
    obtain rfl : j = 0 := by omega
    exact Int.le_refl _), rfl⟩
  case round =>
    obtain ⟨k, x, hk1, hk, rfl, rfl, hx, hall, rfl⟩ := hrel
    by_cases hlt : k < l.length
    · obtain ⟨b', off', he, hb', kk⟩ := h.rows.int hlt
      obtain ⟨rfl, rfl⟩ : b' = b ∧ off' = off := by cases he; exact ⟨rfl, rfl⟩
      have HX := Lib.hid hx
      have HALL := Lib.hid hall
      have HM := Lib.hid (List.getElem_mem hlt)
      clear hx hall
      by_cases hc : x < l[k]
      · go_wp2
        go_roundw
        case rel =>
          refine ⟨k + 1, l[k], by omega, by omega, by go_num, rfl, HM.out, fun j hj hjk => ?_, trivial⟩
          by_cases e : j = k
          · subst e; exact Int.le_refl _
          · exact Int.le_trans (HALL.out j hj (by omega)) (Int.le_of_lt hc)
        case measure => simp [intOf]; omega
      · go_wp2
        go_roundw
        case rel =>
          refine ⟨k + 1, x, by omega, by omega, by go_num, rfl, HX.out, fun j hj hjk => ?_, trivial⟩
          by_cases e : j = k
          · subst e; exact Int.not_lt.1 hc
          · exact HALL.out j hj (by omega)
        case measure => simp [intOf]; omega
    · obtain rfl : k = l.length := by omega
      go_wp2
      go_ret
      exact ⟨x, rfl, hx, fun y hy => by
        obtain ⟨j, hj, rfl⟩ := List.getElem_of_mem hy
        exact hall j hj hj, Below.refl _ _⟩
end Go.Proofs.Ytegbbkmppphddaa
