/- The reference's Clash; far. -/
import Derived.Test.YtegbbkmppphddaaDoorRefClash2
import Derived.Test.YtegbbkmppphddaaDoorClash
set_option linter.unusedVariables false
set_option linter.unusedSimpArgs false
namespace Go.Proofs.YtegbbkmppphddaaDoor
open Go.RowKit

set_option maxRecDepth 100000 in
set_option maxHeartbeats 2000000 in
theorem refClash_any {w : World} {cA : Option Addr} {cc : Nat} {pA : Option Addr} {pc : Nat} {wA : Option Addr} {wc : Nat} {uA : Option Addr} {uc : Nat} {t : Task} (h : TaskRd w cA cc pA pc wA wc uA uc t) :
    Calls Tryd.prog 15 #[taskVal cA cc pA pc wA wc uA uc t] w (ResPost w (clashR t)) := by
  have hwl := h.wlen
  have hwm := h.wcap
  unfold maxLen at hwm
  have hT1 := h.below (below_box (.cells #[.int .i64 t.cloth.threads, .slice cA t.cloth.crosses.length cc, .slice pA t.cloth.pins.length pc, .slice wA t.wishes.length wc, .slice uA t.unlike.length uc,
      .int .i64 t.s0, .int .i64 t.s1, .int .i64 t.s2, .int .i64 t.s3, .int .i64 t.s4, .int .i64 t.s5] 30))
  by_cases h0 : taskB t = 0
  · have hk := taskB_ok h0
    by_cases h10 : 10 < t.wishes.length
    · have HR := Lib.hid (clashR_long h0 h10)
      have g : (10 : Int) < t.wishes.length := by omega
      have H0 := Lib.hid h0
      clear h0
      go_enter Tryd.func15, Tryd.ntmps15
      go_wp2_with fail
      refine (reftask_any hT1).mono ?_
      rintro e w1 ⟨rfl, hb1⟩
      rw [H0.out]
      simp only [World.size_alloc] at hb1
      obtain ⟨hcell, _⟩ := bcell hb1
      go_wp2_with fail
      go_ret2
      refine ⟨.slice none 0 0, ?_, ?_, (below_box _).trans (hb1.mono (by omega))⟩
      · rw [HR.out]; rfl
      · rw [HR.out]; exact ListOut.nil_ _
    · have g : ((t.wishes.length : Int)) ≤ 10 := by omega
      have H10 := Lib.hid h10
      have H0 := Lib.hid h0
      have h10' : t.wishes.length ≤ 10 := by omega
      clear h0 h10
      go_enter Tryd.func15, Tryd.ntmps15
      go_wp2_with fail
      refine (reftask_any hT1).mono ?_
      rintro e w1 ⟨rfl, hb1⟩
      rw [H0.out]
      simp only [World.size_alloc] at hb1
      obtain ⟨hcell, _⟩ := bcell hb1
      go_wp2_with fail
      go_loopw [5] (fun i wr => ∃ k : Nat, k ≤ t.wishes.length + 1 ∧ i = .int .i64 k ∧ Below (w.heap.size + 1) (w.alloc (.cells #[.int .i64 t.cloth.threads, .slice cA t.cloth.crosses.length cc, .slice pA t.cloth.pins.length pc, .slice wA t.wishes.length wc, .slice uA t.unlike.length uc,
      .int .i64 t.s0, .int .i64 t.s1, .int .i64 t.s2, .int .i64 t.s3, .int .i64 t.s4, .int .i64 t.s5] 30)) wr ∧ ∀ m, m < k → clashL t m [] 0 = none) (fun i _ => t.wishes.length + 1 - (intOf i).toNat)
      case atStart => exact ⟨0, by omega, rfl, hb1, fun m hm => by omega⟩
      case round =>
        clear hcell hb1
        obtain ⟨k, hk1, rfl, hbl, hall⟩ := hrel
        obtain ⟨hcell, _⟩ := bcell hbl
        have hszr : w.heap.size + 1 ≤ wr.heap.size := by have := hbl.size; simp at this; omega
        have HALL := Lib.hid hall
        clear hall
        by_cases hlt : k ≤ t.wishes.length
        · have hTr := hT1.below' (by simp) hbl
          have hlti : (k : Int) ≤ (t.wishes.length : Int) := by omega
          go_wp2_with fail
          refine (refclash_any t hk h10' k wr none 0 0 [] 0 k rfl (by simp) (fun _ => rfl) (fun h => by simp at h) (by simp; omega) (fun i h => by cases h) hTr (IntsRd.nil_ _)).mono ?_
          rintro e w3 ⟨v, b, rfl, hs, hb3⟩
          have hend := hbl.trans (hb3.mono hszr)
          generalize hr : clashL t k [] 0 = r at hs
          have HRR := Lib.hid hr
          clear hr
          cases r with
          | none =>
            obtain rfl := hs
            go_wp2
            go_roundw
            case rel => exact ⟨k + 1, by omega, by go_num, hend, fun m hm => by
              by_cases e : m = k
              · subst e; exact HRR.out
              · exact HALL.out m (by omega)⟩
            case measure => simp [intOf]; omega
          | some x =>
            obtain ⟨rfl, A, c, rfl, hI⟩ := hs
            have hF : clashF t = some x := findSome_yes (by omega) HALL.out HRR.out
            have HR := Lib.hid (clashR_some H0.out H10.out hF)
            clear hF
            go_wp2
            go_ret2
            refine ⟨.slice A (natInts x).length c, ?_, ?_, (below_box _).trans (hend.mono (by omega))⟩
            · rw [HR.out]; rfl
            · rw [HR.out]; exact ⟨A, c, rfl, hI⟩
        · have hlti : ¬ (k : Int) ≤ (t.wishes.length : Int) := by omega
          have hF : clashF t = none := by
            unfold clashF
            rw [List.findSome?_eq_none_iff]
            intro m hm
            have : m < t.wishes.length + 1 := by simpa using hm
            exact HALL.out m (by omega)
          have HR := Lib.hid (clashR_none H0.out H10.out hF)
          clear hF
          go_wp2
          go_ret2
          refine ⟨.slice none 0 0, ?_, ?_, (below_box _).trans (hbl.mono (by omega))⟩
          · rw [HR.out]; rfl
          · rw [HR.out]; exact ListOut.nil_ _
  · have HR := Lib.hid (clashR_err h0)
    have hne : (taskB t != 0) = true := by simp [h0]
    clear h0
    go_enter Tryd.func15, Tryd.ntmps15
    go_wp2_with fail
    refine (reftask_any hT1).mono ?_
    rintro e w1 ⟨rfl, hb1⟩
    simp only [World.size_alloc] at hb1
    go_wp2_with fail
    go_ret2
    refine ⟨.slice none 0 0, ?_, ?_, (below_box _).trans (hb1.mono (by omega))⟩
    · rw [HR.out]; rfl
    · rw [HR.out]; exact ListOut.nil_ _

def FarPost (w : World) (e : Ending) (w' : World) : Prop := (∃ b, e = .returned (.bool b)) ∧ Below w.heap.size w w'
set_option maxRecDepth 100000 in
set_option maxHeartbeats 4000000 in
theorem far_any {w : World} {cA : Option Addr} {cc : Nat} {pA : Option Addr} {pc : Nat} {wA : Option Addr} {wc : Nat} {uA : Option Addr} {uc : Nat} {t : Task} (h : TaskRd w cA cc pA pc wA wc uA uc t) :
    Calls Tryd.prog 9 #[taskVal cA cc pA pc wA wc uA uc t] w (FarPost w) := by
  have h1 := h.wlen
  have h2 := h.wcap
  have h3 := h.ulen
  have h4 := h.ucap
  have h5 := h.cloth.clen
  have h6 := h.cloth.ccap
  have h7 := h.cloth.plen
  have h8 := h.cloth.pcap
  unfold maxLen at h2 h4 h6 h8
  have a1 := Bool.eq_false_or_eq_true (decide (300 < (t.cloth.crosses.length : Int)))
  have a2 := Bool.eq_false_or_eq_true (decide (300 < (t.cloth.pins.length : Int)))
  have a3 := Bool.eq_false_or_eq_true (decide (300 < (t.wishes.length : Int)))
  have a4 := Bool.eq_false_or_eq_true (decide (300 < (t.unlike.length : Int)))
  have b1 := Bool.eq_false_or_eq_true (decide (6 < t.cloth.threads))
  have b2 := Bool.eq_false_or_eq_true (decide (t.cloth.threads ≤ 16))
  have b3 := Bool.eq_false_or_eq_true (decide (30 < (t.wishes.length : Int)))
  have b4 := Bool.eq_false_or_eq_true (decide ((t.wishes.length : Int) ≤ 100))
  have b5 := Bool.eq_false_or_eq_true (decide (30 < (t.unlike.length : Int)))
  have b6 := Bool.eq_false_or_eq_true (decide ((t.unlike.length : Int) ≤ 100))
  clear h
  rcases a1 with a1 | a1
  · go_enter Tryd.func9, Tryd.ntmps9
    go_wp2
    go_ret
    exact ⟨⟨_, rfl⟩, below_box _⟩
  rcases a2 with a2 | a2
  · go_enter Tryd.func9, Tryd.ntmps9
    go_wp2
    go_ret
    exact ⟨⟨_, rfl⟩, below_box _⟩
  rcases a3 with a3 | a3
  · go_enter Tryd.func9, Tryd.ntmps9
    go_wp2
    go_ret
    exact ⟨⟨_, rfl⟩, below_box _⟩
  rcases a4 with a4 | a4
  · go_enter Tryd.func9, Tryd.ntmps9
    go_wp2
    go_ret
    exact ⟨⟨_, rfl⟩, below_box _⟩
  rcases b1 with b1 | b1
  · rcases b2 with b2 | b2
    · go_enter Tryd.func9, Tryd.ntmps9
      go_wp2
      go_ret
      exact ⟨⟨_, rfl⟩, below_box _⟩
    · skip
      rcases b3 with b3 | b3
      · rcases b4 with b4 | b4
        · go_enter Tryd.func9, Tryd.ntmps9
          go_wp2
          go_ret
          exact ⟨⟨_, rfl⟩, below_box _⟩
        · skip
          rcases b5 with b5 | b5
          · rcases b6 with b6 | b6
            · go_enter Tryd.func9, Tryd.ntmps9
              go_wp2
              go_ret
              exact ⟨⟨_, rfl⟩, below_box _⟩
            · go_enter Tryd.func9, Tryd.ntmps9
              go_wp2
              go_ret
              exact ⟨⟨_, rfl⟩, below_box _⟩
          · go_enter Tryd.func9, Tryd.ntmps9
            go_wp2
            go_ret
            exact ⟨⟨_, rfl⟩, below_box _⟩
      · skip
        rcases b5 with b5 | b5
        · rcases b6 with b6 | b6
          · go_enter Tryd.func9, Tryd.ntmps9
            go_wp2
            go_ret
            exact ⟨⟨_, rfl⟩, below_box _⟩
          · go_enter Tryd.func9, Tryd.ntmps9
            go_wp2
            go_ret
            exact ⟨⟨_, rfl⟩, below_box _⟩
        · go_enter Tryd.func9, Tryd.ntmps9
          go_wp2
          go_ret
          exact ⟨⟨_, rfl⟩, below_box _⟩
  · skip
    rcases b3 with b3 | b3
    · rcases b4 with b4 | b4
      · go_enter Tryd.func9, Tryd.ntmps9
        go_wp2
        go_ret
        exact ⟨⟨_, rfl⟩, below_box _⟩
      · skip
        rcases b5 with b5 | b5
        · rcases b6 with b6 | b6
          · go_enter Tryd.func9, Tryd.ntmps9
            go_wp2
            go_ret
            exact ⟨⟨_, rfl⟩, below_box _⟩
          · go_enter Tryd.func9, Tryd.ntmps9
            go_wp2
            go_ret
            exact ⟨⟨_, rfl⟩, below_box _⟩
        · go_enter Tryd.func9, Tryd.ntmps9
          go_wp2
          go_ret
          exact ⟨⟨_, rfl⟩, below_box _⟩
    · skip
      rcases b5 with b5 | b5
      · rcases b6 with b6 | b6
        · go_enter Tryd.func9, Tryd.ntmps9
          go_wp2
          go_ret
          exact ⟨⟨_, rfl⟩, below_box _⟩
        · go_enter Tryd.func9, Tryd.ntmps9
          go_wp2
          go_ret
          exact ⟨⟨_, rfl⟩, below_box _⟩
      · go_enter Tryd.func9, Tryd.ntmps9
        go_wp2
        go_ret
        exact ⟨⟨_, rfl⟩, below_box _⟩
end Go.Proofs.YtegbbkmppphddaaDoor
