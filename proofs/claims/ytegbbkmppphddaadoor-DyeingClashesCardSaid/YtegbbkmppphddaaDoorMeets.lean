/- The program's Meets. -/
import Derived.Test.YtegbbkmppphddaaDoorMeetsP
import Derived.Test.YtegbbkmppphddaaDoorSolve
set_option linter.unusedVariables false
set_option linter.unusedSimpArgs false
namespace Go.Proofs.YtegbbkmppphddaaDoor
open Go.RowKit

def badC (x : Int) : Bool := decide (x < 0) || decide (6 ≤ x)
set_option maxHeartbeats 400000 in
theorem meets1_any {w : World} (x : Int) : Calls Tryd.prog 36 #[.int .i64 x] w fun e w'' => e = .returned (.bool (badC x)) ∧ w = w'' := by
  unfold badC
  by_cases h : x < 0
  · have hd : decide (x < 0) = true := by simp [h]
    go_enter Tryd.func36, Tryd.ntmps36
    go_wp2
    go_ret
    exact ⟨by simp [h], rfl⟩
  · have hd : decide (x < 0) = false := by simp [h]
    go_enter Tryd.func36, Tryd.ntmps36
    go_wp2
    go_ret
    exact ⟨by simp [h], rfl⟩
set_option maxHeartbeats 400000 in
theorem meets2_any {w : World} (i : Nat) : Calls Tryd.prog 37 (#[.int .i64 i] ++ #[]) w fun e w'' => e = .returned (.bool true) ∧ w'' = w := by
  go_enter Tryd.func37, Tryd.ntmps37
  go_wp2
  go_ret
  exact ⟨rfl, rfl⟩

set_option maxHeartbeats 1000000 in
theorem index_bad {w : World} {lA : Option Addr} {lc : Nat} {l : List Int} (hl : IntsRd w lA lc l) :
    Calls Tryd.prog 54 #[.slice lA l.length lc, .func (.func 36) #[] #[]] w fun e w'' => ∃ r : Int, e = .returned (.int .i64 r) ∧ decide (0 ≤ r) = l.any badC ∧ w = w'' := by
  have hll := hl.len
  have hlm := hl.cap
  unfold maxLen at hlm
  have eg := enters_of (P := Tryd.prog) Tryd.func36 (by kernel_rfl) rfl
  go_enter Tryd.func54, Tryd.ntmps54
  go_wp2
  go_loop [8] (fun i => ∃ k : Nat, k ≤ l.length ∧ i = .int .i64 k ∧ ∀ j (hj : j < l.length), j < k → badC l[j] = false) (fun i => l.length - (intOf i).toNat)
  case atStart => exact ⟨0, by omega, rfl, fun j _ hj => by omega⟩
  case round =>
    obtain ⟨k, hk, rfl, hall⟩ := hrel
    have HALL := Lib.hid hall
    clear hall
    by_cases hlt : k < l.length
    · obtain ⟨b, off, rfl, hb, h0⟩ := hl.rows.int hlt
      go_wp2_with fail
      refine (meets1_any l[k]).mono ?_
      rintro e w2 ⟨rfl, rfl⟩
      cases hbd : badC l[k] with
      | true =>
        have HB := Lib.hid hbd
        clear hbd
        go_wp2
        go_ret
        exact ⟨(k : Int), rfl, by rw [show l.any badC = true from List.any_eq_true.2 ⟨l[k], List.getElem_mem hlt, HB.out⟩]; simp, rfl⟩
      | false =>
        have HB := Lib.hid hbd
        clear hbd
        go_wp2
        go_round
        case rel => exact ⟨k + 1, by omega, by go_num, fun j hj hjk => by
          by_cases e : j = k
          · subst e; exact HB.out
          · exact HALL.out j hj (by omega)⟩
        case measure => simp [intOf]; omega
    · obtain rfl : k = l.length := by omega
      go_wp2
      go_ret
      refine ⟨-1, rfl, ?_, rfl⟩
      rw [show l.any badC = false from List.any_eq_false.2 fun x hx => by
        obtain ⟨j, hj, rfl⟩ := List.getElem_of_mem hx
        simp [HALL.out j hj hj]]
      rfl
set_option maxHeartbeats 400000 in
theorem contains_bad {w : World} {lA : Option Addr} {lc : Nat} {l : List Int} (hl : IntsRd w lA lc l) :
    Calls Tryd.prog 35 #[.slice lA l.length lc, .func (.func 36) #[] #[]] w fun e w'' => e = .returned (.bool (l.any badC)) ∧ w = w'' := by
  have hll := hl.len
  have hlm := hl.cap
  unfold maxLen at hlm
  go_enter Tryd.func35, Tryd.ntmps35
  go_wp2_with fail
  refine (index_bad hl).mono ?_
  rintro e w2 ⟨r, rfl, hr, rfl⟩
  have HR := Lib.hid hr
  clear hr
  go_wp2
  go_ret
  exact ⟨by rw [← HR.out]; rfl, rfl⟩
theorem colsB_any {t : Task} {l : List Int} (hlen : (l.length : Int) = t.cloth.threads) : colsB t l = !l.any badC := by
  unfold colsB
  rw [List.not_any_eq_all_not]
  simp only [hlen, decide_true, Bool.true_and]
  congr 1
  funext x
  unfold badC
  by_cases h1 : 0 ≤ x <;> by_cases h2 : x < 6 <;> simp [h1, h2] <;> omega
end Go.Proofs.YtegbbkmppphddaaDoor
