/- SameInts of the top's own copy. -/
import Derived.Test.YtegbbkmppphddaaRefA
set_option linter.unusedVariables false
set_option linter.unusedSimpArgs false
namespace Go.Proofs.Ytegbbkmppphddaa
open Go.RowKit

theorem below_drewN (w : World) (n : Nat) : Below w.heap.size w (w.drewN n) := by
  induction n with
  | zero => exact Below.refl _ _
  | succ n ih => exact ih.drew
set_option maxHeartbeats 1000000 in
theorem same_any {w : World} {aA : Option Addr} {ac : Nat} {a : List Int} {bA : Option Addr} {bc : Nat} {b : List Int} (ha : IntsRd w aA ac a) (hb : IntsRd w bA bc b) :
    Calls Try.prog 13 #[.slice aA a.length ac, .slice bA b.length bc] w fun e w' => e = .returned (.bool (decide (a = b))) ∧ Below w.heap.size w w' := by
  have hal := ha.len
  have ham := ha.cap
  have hbl := hb.len
  have hbm := hb.cap
  unfold maxLen at ham hbm
  by_cases hlen : a.length = b.length
  · have hne : ((a.length : Int) != (b.length : Int)) = false := by simp [hlen]
    have HL := Lib.hid hlen
    clear hlen
    go_enter Try.func13, Try.ntmps13
    go_wp2
    go_loopw [5] (fun i wr => ∃ k : Nat, k ≤ a.length ∧ i = .int .i64 k ∧ Below w.heap.size w wr ∧ ∀ j (hj : j < a.length) (hj' : j < b.length), j < k → a[j] = b[j]) (fun i _ => a.length - (intOf i).toNat)
    case atStart => exact ⟨0, by omega, rfl, Below.refl _ _, fun j _ _ hj => by omega⟩
    case round =>
      obtain ⟨k, hk, rfl, hbl', hall⟩ := hrel
      have HALL := Lib.hid hall
      clear hall
      by_cases hlt : k < a.length
      · have hltb : k < b.length := by have := HL.out; omega
        obtain ⟨p, po, rfl, hp, h0⟩ := (ha.below hbl').rows.int hlt
        obtain ⟨q, qo, rfl, hq, h1⟩ := (hb.below hbl').rows.int hltb
        by_cases he : a[k] = b[k]
        · have heb : (a[k] != b[k]) = false := by simp [he]
          have HE := Lib.hid he
          clear he
          go_wp2
          go_quiet (fail)
          go_wp2
          go_roundw
          case rel => exact ⟨k + 1, by omega, by go_num, (hbl'.trans ((below_drewN _ _).mono hbl'.size)), fun j hj hj' hjk => by
            by_cases e : j = k
            · subst e; exact HE.out
            · exact HALL.out j hj hj' (by omega)⟩
          case measure => simp [intOf]; omega
        · have heb : (a[k] != b[k]) = true := by simp [he]
          have HD : Hid (decide (a = b) = false) := by
            simp only [Hid, decide_eq_false_iff_not]
            rintro rfl; exact he rfl
          clear he
          go_wp2
          go_quiet (fail)
          go_wp2
          go_ret
          exact ⟨by rw [HD.out]; rfl, (hbl'.trans ((below_drewN _ _).mono hbl'.size))⟩
      · obtain rfl : k = a.length := by omega
        have HD : Hid (decide (a = b) = true) := by
          simp only [Hid, decide_eq_true_eq]
          exact List.ext_getElem HL.out fun j h1 h2 => HALL.out j h1 h2 h1
        go_wp2
        go_ret
        exact ⟨by rw [HD.out]; rfl, hbl'⟩
  · have hne : ((a.length : Int) != (b.length : Int)) = true := by simp; omega
    have HD : Hid (decide (a = b) = false) := by
      simp only [Hid, decide_eq_false_iff_not]
      rintro rfl; exact hlen rfl
    clear hlen
    go_enter Try.func13, Try.ntmps13
    go_wp2
    go_ret
    exact ⟨by rw [HD.out]; rfl, Below.refl _ _⟩
end Go.Proofs.Ytegbbkmppphddaa
