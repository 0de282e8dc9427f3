/- The program's check of a task, whole. -/
import Derived.Test.YtegbbkmppphddaaDyCheck
set_option linter.unusedVariables false
set_option linter.unusedSimpArgs false
namespace Go.Proofs.Ytegbbkmppphddaa
open Go.RowKit

def CkPost (w : World) (v : Int) (e : Ending) (w' : World) : Prop := e = .returned (.int .i64 v) ∧ Below w.heap.size w w'
set_option maxRecDepth 100000 in
set_option maxHeartbeats 4000000 in
theorem dycheck_any {w : World} {cA : Option Addr} {cc : Nat} {pA : Option Addr} {pc : Nat} {wA : Option Addr} {wc : Nat} {uA : Option Addr} {uc : Nat} {t : Task} (h : TaskRd w cA cc pA pc wA wc uA uc t) :
    Calls Try.prog 8 #[taskVal cA cc pA pc wA wc uA uc t] w (CkPost w (taskB t)) := by
  have hT1 := h.below (below_box (.cells #[.int .i64 t.cloth.threads, .slice cA t.cloth.crosses.length cc, .slice pA t.cloth.pins.length pc, .slice wA t.wishes.length wc, .slice uA t.unlike.length uc,
      .int .i64 t.s0, .int .i64 t.s1, .int .i64 t.s2, .int .i64 t.s3, .int .i64 t.s4, .int .i64 t.s5] 41))
  by_cases h0 : clothB t.cloth = 0
  · by_cases h1 : 16 < t.cloth.threads
    · have hf := Lib.hid (show taskB t = 3 by unfold taskB; rw [if_neg (by simp [h0]), if_pos (by omega)])
      have H0 := Lib.hid h0
      clear h0
      go_enter Try.func8, Try.ntmps8
      go_wp2_with fail
      refine (check_any hT1.cloth).mono ?_
      rintro e w1 ⟨rfl, hb1⟩
      rw [H0.out]
      simp only [World.size_alloc] at hb1
      obtain ⟨hcell, _⟩ := bcell hb1
      go_wp2_with fail
      go_ret
      exact ⟨by rw [hf.out]; rfl, (below_box _).trans (hb1.mono (by omega))⟩
    by_cases hbig : 100 < t.wishes.length ∨ 100 < t.unlike.length
    · have hf := Lib.hid (show taskB t = 3 by unfold taskB; rw [if_neg (by simp [h0]), if_pos (by omega)])
      have H0 := Lib.hid h0
      clear h0
      have e1 : decide (16 < t.cloth.threads) = false := by simp; omega
      by_cases hmx : t.wishes.length < t.unlike.length
      · have e3 : decide (100 < (t.unlike.length : Int)) = true := by simp; omega
        have e4 : ¬ ((t.unlike.length : Int) ≤ 100) := by omega
        go_enter Try.func8, Try.ntmps8
        go_wp2_with fail
        refine (check_any hT1.cloth).mono ?_
        rintro e w1 ⟨rfl, hb1⟩
        rw [H0.out]
        simp only [World.size_alloc] at hb1
        obtain ⟨hcell, _⟩ := bcell hb1
        go_wp2_with fail
        go_ret
        exact ⟨by rw [hf.out]; rfl, (below_box _).trans (hb1.mono (by omega))⟩
      · have e3 : decide (100 < (t.wishes.length : Int)) = true := by simp; omega
        have e4 : ¬ ((t.wishes.length : Int) ≤ 100) := by omega
        go_enter Try.func8, Try.ntmps8
        go_wp2_with fail
        refine (check_any hT1.cloth).mono ?_
        rintro e w1 ⟨rfl, hb1⟩
        rw [H0.out]
        simp only [World.size_alloc] at hb1
        obtain ⟨hcell, _⟩ := bcell hb1
        go_wp2_with fail
        go_ret
        exact ⟨by rw [hf.out]; rfl, (below_box _).trans (hb1.mono (by omega))⟩
    have hf : taskB t = goodE (goodB t) := by unfold taskB goodE; rw [if_neg (by simp [h0]), if_neg (by omega)]
    rw [hf]
    exact dycheck_good h h0 (by omega) (by omega) (by omega)
  · have hf := Lib.hid (show taskB t = clothB t.cloth by unfold taskB; rw [if_pos h0])
    have hne : (clothB t.cloth != 0) = true := by simp [h0]
    clear h0
    go_enter Try.func8, Try.ntmps8
    go_wp2_with fail
    refine (check_any hT1.cloth).mono ?_
    rintro e w1 ⟨rfl, hb1⟩
    simp only [World.size_alloc] at hb1
    go_wp2_with fail
    go_ret
    exact ⟨by rw [hf.out]; rfl, (below_box _).trans (hb1.mono (by omega))⟩
end Go.Proofs.Ytegbbkmppphddaa
