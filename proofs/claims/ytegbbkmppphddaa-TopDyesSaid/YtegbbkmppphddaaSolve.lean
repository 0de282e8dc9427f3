/- The program's Solve. -/
import Derived.Test.YtegbbkmppphddaaMadeW
import Derived.Test.YtegbbkmppphddaaRefA
set_option linter.unusedVariables false
set_option linter.unusedSimpArgs false
namespace Go.Proofs.Ytegbbkmppphddaa
open Go.RowKit

set_option maxHeartbeats 400000 in
theorem solve1_any {w : World} (i : Nat) : Calls Try.prog 21 (#[.int .i64 i] ++ #[]) w fun e w'' => e = .returned (.bool true) ∧ w'' = w := by
  go_enter Try.func21, Try.ntmps21
  go_wp2
  go_ret
  exact ⟨rfl, rfl⟩

theorem solve_below {t : Task} {b : Nat} {w0 w w' : World} {e : Ending} (h : SolveP t b w e w') (hb : Below w0.heap.size w0 w) (hlt : w0.heap.size ≤ b) : Below w0.heap.size w0 w' :=
  ⟨h.1.1.trans hb.os, h.1.2.1.trans hb.tape, h.1.2.2.1.trans hb.output, Nat.le_trans hb.size h.1.2.2.2.1, fun k hk => (h.1.2.2.2.2 k (Nat.lt_of_lt_of_le hk hb.size) (by omega)).trans (hb.block k hk)⟩

set_option maxHeartbeats 1000000 in
theorem dysolve_any {w : World} {cA : Option Addr} {cc : Nat} {pA : Option Addr} {pc : Nat} {wA : Option Addr} {wc : Nat} {uA : Option Addr} {uc : Nat} {t : Task} (h : TaskRd w cA cc pA pc wA wc uA uc t) :
    Calls Try.prog 7 #[taskVal cA cc pA pc wA wc uA uc t] w (ResPost w (solveR t)) := by
  have hT1 := h.below (below_box (.cells #[.int .i64 t.cloth.threads, .slice cA t.cloth.crosses.length cc, .slice pA t.cloth.pins.length pc, .slice wA t.wishes.length wc, .slice uA t.unlike.length uc,
      .int .i64 t.s0, .int .i64 t.s1, .int .i64 t.s2, .int .i64 t.s3, .int .i64 t.s4, .int .i64 t.s5] 41))
  by_cases h0 : taskB t = 0
  · have hk := taskB_ok h0
    have hR : solveR t = resOf (solveB t t.cloth.threads.toNat []) := by
      unfold solveR; rw [if_neg (by simp [h0])]
    have HR := Lib.hid hR
    have H0 := Lib.hid h0
    clear h0 hR
    go_enter Try.func7, Try.ntmps7
    go_wp2_with fail
    refine (dycheck_any hT1).mono ?_
    rintro e w1 ⟨rfl, hb1⟩
    rw [H0.out]
    simp only [World.size_alloc] at hb1
    obtain ⟨hcell, _⟩ := bcell hb1
    have hT2 := hT1.below' (by simp) hb1
    go_wp2_with fail
    have eg := enters_of (P := Try.prog) Try.func21 (by kernel_rfl) rfl
    refine (made_any hT2 hk 21 #[] (fun _ => true) eg (fun w' i _ _ => solve1_any i)).mono ?_
    rintro e w2 ⟨b, hlt, rfl, hP, hb2⟩
    have hM := made_matches hk (fun _ => true)
    rw [pickT_all] at hM
    go_wp2_with fail
    refine (solve_any hk hM (made_wf hk _) hP).mono ?_
    intro e w3 hS
    have hB : Below w.heap.size w w3 := solve_below hS (((below_box _).trans (hb1.mono (by omega))).trans (hb2.mono (by have := hb1.size; simp at this; omega))) (by have := hb1.size; simp at this; omega)
    clear hP hM hcell
    rcases hS.2 with ⟨r, A, c, hq, rfl, hI⟩ | ⟨hq, v, rfl⟩
    · have HQ := Lib.hid hq
      clear hq hS
      go_wp2_with fail
      go_ret2
      refine ⟨.slice A r.length c, ?_, ?_, hB⟩
      · rw [HR.out, HQ.out]; rfl
      · rw [HR.out, HQ.out]; exact ⟨A, c, rfl, hI⟩
    · have HQ := Lib.hid hq
      clear hq hS
      go_wp2_with fail
      go_ret2
      refine ⟨.slice none 0 0, ?_, ?_, hB⟩
      · rw [HR.out, HQ.out]; rfl
      · rw [HR.out, HQ.out]; exact ListOut.nil_ _
  · have HR := Lib.hid (show solveR t = ([], taskB t) by unfold solveR; rw [if_pos h0])
    have hne : (taskB t != 0) = true := by simp [h0]
    clear h0
    go_enter Try.func7, Try.ntmps7
    go_wp2_with fail
    refine (dycheck_any hT1).mono ?_
    rintro e w1 ⟨rfl, hb1⟩
    simp only [World.size_alloc] at hb1
    go_wp2_with fail
    go_ret2
    refine ⟨.slice none 0 0, ?_, ?_, (below_box _).trans (hb1.mono (by omega))⟩
    · rw [HR.out]; rfl
    · rw [HR.out]; exact ListOut.nil_ _
end Go.Proofs.Ytegbbkmppphddaa
