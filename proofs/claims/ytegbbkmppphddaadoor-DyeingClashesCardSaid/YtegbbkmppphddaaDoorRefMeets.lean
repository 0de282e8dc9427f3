/- The reference's Colours and Meets; SameInts; far. -/
import Derived.Test.YtegbbkmppphddaaDoorMeetsW
import Derived.Test.YtegbbkmppphddaaDoorRefA
set_option linter.unusedVariables false
set_option linter.unusedSimpArgs false
namespace Go.Proofs.YtegbbkmppphddaaDoor
open Go.RowKit

theorem colsB_no {t : Task} {l : List Int} {k : Nat} (hk : k < l.length) (h : l[k] < 0 ∨ 6 ≤ l[k]) : colsB t l = false := by
  unfold colsB
  have : (l.all fun x => decide (0 ≤ x) && decide (x < 6)) = false := all_no hk (by simp; omega)
  rw [this, Bool.and_false]
set_option maxHeartbeats 1000000 in
theorem colours_any {w : World} {cA : Option Addr} {cc : Nat} {pA : Option Addr} {pc : Nat} {wA : Option Addr} {wc : Nat} {uA : Option Addr} {uc : Nat} {t : Task}
    {lA : Option Addr} {lc : Nat} {l : List Int} (hl : IntsRd w lA lc l) :
    Calls Tryd.prog 33 #[taskVal cA cc pA pc wA wc uA uc t, .slice lA l.length lc] w fun e w' => e = .returned (.bool (colsB t l)) ∧ Below w.heap.size w w' := by
  have hll := hl.len
  have hlm := hl.cap
  unfold maxLen at hlm
  have hL1 := hl.below (below_box (.cells #[.int .i64 t.cloth.threads, .slice cA t.cloth.crosses.length cc, .slice pA t.cloth.pins.length pc, .slice wA t.wishes.length wc, .slice uA t.unlike.length uc,
      .int .i64 t.s0, .int .i64 t.s1, .int .i64 t.s2, .int .i64 t.s3, .int .i64 t.s4, .int .i64 t.s5] 30))
  go_enter Tryd.func33, Tryd.ntmps33
  go_wp2
  go_loop [5] (fun i => ∃ k : Nat, k ≤ l.length ∧ i = .int .i64 k ∧ ∀ j (hj : j < l.length), j < k → 0 ≤ l[j] ∧ l[j] < 6) (fun i => l.length - (intOf i).toNat)
  case atStart => exact ⟨0, by omega, rfl, fun j _ hj => by omega⟩
  case round =>
    obtain ⟨k, hk, rfl, hall⟩ := hrel
    have HALL := Lib.hid hall
    clear hall
    by_cases hlt : k < l.length
    · obtain ⟨b, off, rfl, hb, h0⟩ := hL1.rows.int hlt
      by_cases h1 : l[k] < 0
      · have hd : decide (l[k] < 0) = true := by simp [h1]
        have HN := Lib.hid (colsB_no (t := t) hlt (.inl h1))
        go_wp2
        go_ret
        exact ⟨by rw [HN.out]; rfl, below_box _⟩
      · have hd : decide (l[k] < 0) = false := by simp [h1]
        by_cases h2 : 6 ≤ l[k]
        · have HN := Lib.hid (colsB_no (t := t) hlt (.inr h2))
          go_wp2
          go_ret
          exact ⟨by rw [HN.out]; rfl, below_box _⟩
        · go_wp2
          go_round
          case rel => exact ⟨k + 1, by omega, by go_num, fun j hj hjk => by
            by_cases e : j = k
            · subst e; omega
            · exact HALL.out j hj (by omega)⟩
          case measure => simp [intOf]; omega
    · obtain rfl : k = l.length := by omega
      have HA : Hid ((l.all fun x => decide (0 ≤ x) && decide (x < 6)) = true) := all_yes fun j hj => by
        have := HALL.out j hj hj
        simp [this]
      by_cases he : (l.length : Int) = t.cloth.threads
      · have heb : ((l.length : Int) == t.cloth.threads) = true := by simp [he]
        have HC := Lib.hid (show colsB t l = true by unfold colsB; rw [HA.out]; simp [he])
        clear he
        go_wp2
        go_ret
        exact ⟨by rw [HC.out]; rfl, below_box _⟩
      · have heb : ((l.length : Int) == t.cloth.threads) = false := by simp [he]
        have HC := Lib.hid (show colsB t l = false by unfold colsB; simp [he])
        clear he
        go_wp2
        go_ret
        exact ⟨by rw [HC.out]; rfl, below_box _⟩

set_option maxHeartbeats 1000000 in
theorem refmeets_any {w : World} {cA : Option Addr} {cc : Nat} {pA : Option Addr} {pc : Nat} {wA : Option Addr} {wc : Nat} {uA : Option Addr} {uc : Nat} {t : Task} (h : TaskRd w cA cc pA pc wA wc uA uc t)
    {lA : Option Addr} {lc : Nat} {l : List Int} (hl : IntsRd w lA lc l) :
    Calls Tryd.prog 17 #[taskVal cA cc pA pc wA wc uA uc t, .slice lA l.length lc] w (MeetsPost w (meetsR t l)) := by
  have hT1 := h.below (below_box (.cells #[.int .i64 t.cloth.threads, .slice cA t.cloth.crosses.length cc, .slice pA t.cloth.pins.length pc, .slice wA t.wishes.length wc, .slice uA t.unlike.length uc,
      .int .i64 t.s0, .int .i64 t.s1, .int .i64 t.s2, .int .i64 t.s3, .int .i64 t.s4, .int .i64 t.s5] 30))
  have hL1 := hl.below (below_box (.cells #[.int .i64 t.cloth.threads, .slice cA t.cloth.crosses.length cc, .slice pA t.cloth.pins.length pc, .slice wA t.wishes.length wc, .slice uA t.unlike.length uc,
      .int .i64 t.s0, .int .i64 t.s1, .int .i64 t.s2, .int .i64 t.s3, .int .i64 t.s4, .int .i64 t.s5] 30))
  by_cases h0 : taskB t = 0
  · have hk := taskB_ok h0
    have HR := Lib.hid (show meetsR t l = if colsB t l then (possibleB t l, 0) else (false, 2) by unfold meetsR; rw [if_neg (by simp [h0])])
    have H0 := Lib.hid h0
    clear h0
    cases hc : colsB t l with
    | false =>
      have HC := Lib.hid hc
      clear hc
      go_enter Tryd.func17, Tryd.ntmps17
      go_wp2_with fail
      refine (reftask_any hT1).mono ?_
      rintro e w1 ⟨rfl, hb1⟩
      rw [H0.out]
      simp only [World.size_alloc] at hb1
      obtain ⟨hcell, _⟩ := bcell hb1
      go_wp2_with fail
      refine (colours_any (t := t) (hL1.below' (by simp) hb1)).mono ?_
      rintro e w2 ⟨rfl, hb2⟩
      rw [HC.out]
      go_wp2_with fail
      go_ret2
      exact ⟨by rw [HR.out, HC.out]; rfl, ((below_box _).trans (hb1.mono (by omega))).trans (hb2.mono (by have := hb1.size; simp at this; omega))⟩
    | true =>
      have HC := Lib.hid hc
      obtain ⟨-, hcols⟩ := colsB_yes hk hc
      clear hc
      go_enter Tryd.func17, Tryd.ntmps17
      go_wp2_with fail
      refine (reftask_any hT1).mono ?_
      rintro e w1 ⟨rfl, hb1⟩
      rw [H0.out]
      simp only [World.size_alloc] at hb1
      obtain ⟨hcell, _⟩ := bcell hb1
      go_wp2_with fail
      refine (colours_any (t := t) (hL1.below' (by simp) hb1)).mono ?_
      rintro e w2 ⟨rfl, hb2⟩
      rw [HC.out]
      obtain ⟨hcell2, _⟩ := bcell hb2
      have hs1 : w.heap.size < w1.heap.size := by have := hb1.size; simp at this; omega
      have hT2 := (hT1.below' (by simp) hb1).below hb2
      have hL2 := (hL1.below' (by simp) hb1).below hb2
      go_wp2_with fail
      refine (possible_any hT2 hL2 hk hcols).mono ?_
      rintro e w3 ⟨rfl, hb3⟩
      go_wp2_with fail
      go_ret2
      exact ⟨by rw [HR.out, HC.out]; rfl, (((below_box _).trans (hb1.mono (by omega))).trans (hb2.mono (by omega))).trans (hb3.mono (by have := hb2.size; omega))⟩
  · have HR := Lib.hid (show meetsR t l = (false, taskB t) by unfold meetsR; rw [if_pos h0])
    have hne : (taskB t != 0) = true := by simp [h0]
    clear h0
    go_enter Tryd.func17, Tryd.ntmps17
    go_wp2_with fail
    refine (reftask_any hT1).mono ?_
    rintro e w1 ⟨rfl, hb1⟩
    simp only [World.size_alloc] at hb1
    go_wp2_with fail
    go_ret2
    exact ⟨by rw [HR.out]; rfl, (below_box _).trans (hb1.mono (by omega))⟩

theorem below_drewN (w : World) (n : Nat) : Below w.heap.size w (w.drewN n) := by
  induction n with
  | zero => exact Below.refl _ _
  | succ n ih => exact ih.drew
set_option maxHeartbeats 1000000 in
theorem same_any {w : World} {aA : Option Addr} {ac : Nat} {a : List Int} {bA : Option Addr} {bc : Nat} {b : List Int} (ha : IntsRd w aA ac a) (hb : IntsRd w bA bc b) :
    Calls Tryd.prog 13 #[.slice aA a.length ac, .slice bA b.length bc] w fun e w' => e = .returned (.bool (decide (a = b))) ∧ Below w.heap.size w w' := by
  have hal := ha.len
  have ham := ha.cap
  have hbl := hb.len
  have hbm := hb.cap
  unfold maxLen at ham hbm
  by_cases hlen : a.length = b.length
  · have hne : ((a.length : Int) != (b.length : Int)) = false := by simp [hlen]
    have HL := Lib.hid hlen
    clear hlen
    go_enter Tryd.func13, Tryd.ntmps13
    go_wp2
    go_loopw [5] (fun i wr => ∃ k : Nat, k ≤ a.length ∧ i = .int .i64 k ∧ Below w.heap.size w wr ∧ ∀ j (hj : j < a.length) (hj' : j < b.length), j < k → a[j] = b[j]) (fun i _ => a.length - (intOf i).toNat)
    case atStart => exact ⟨0, by omega, rfl, Below.refl _ _, fun j _ _ hj => by omega⟩
    case round =>
      obtain ⟨k, hk, rfl, hbl', hall⟩ := hrel
      have HALL := Lib.hid hall
      clear hall
      by_cases hlt : k < a.length
      · have hltb : k < b.length := by have := HL.out; omega
        obtain ⟨p, po, rfl, hp, h0⟩ := (ha.below hbl').rows.int hlt
        obtain ⟨q, qo, rfl, hq, h1⟩ := (hb.below hbl').rows.int hltb
        by_cases he : a[k] = b[k]
        · have heb : (a[k] != b[k]) = false := by simp [he]
          have HE := Lib.hid he
          clear he
          go_wp2
          go_quiet (fail)
          go_wp2
          go_roundw
          case rel => exact ⟨k + 1, by omega, by go_num, (hbl'.trans ((below_drewN _ _).mono hbl'.size)), fun j hj hj' hjk => by
            by_cases e : j = k
            · subst e; exact HE.out
            · exact HALL.out j hj hj' (by omega)⟩
          case measure => simp [intOf]; omega
        · have heb : (a[k] != b[k]) = true := by simp [he]
          have HD : Hid (decide (a = b) = false) := by
            simp only [Hid, decide_eq_false_iff_not]
            rintro rfl; exact he rfl
          clear he
          go_wp2
          go_quiet (fail)
          go_wp2
          go_ret
          exact ⟨by rw [HD.out]; rfl, (hbl'.trans ((below_drewN _ _).mono hbl'.size))⟩
      · obtain rfl : k = a.length := by omega
        have HD : Hid (decide (a = b) = true) := by
          simp only [Hid, decide_eq_true_eq]
          exact List.ext_getElem HL.out fun j h1 h2 => HALL.out j h1 h2 h1
        go_wp2
        go_ret
        exact ⟨by rw [HD.out]; rfl, hbl'⟩
  · have hne : ((a.length : Int) != (b.length : Int)) = true := by simp; omega
    have HD : Hid (decide (a = b) = false) := by
      simp only [Hid, decide_eq_false_iff_not]
      rintro rfl; exact hlen rfl
    clear hlen
    go_enter Tryd.func13, Tryd.ntmps13
    go_wp2
    go_ret
    exact ⟨by rw [HD.out]; rfl, Below.refl _ _⟩
end Go.Proofs.YtegbbkmppphddaaDoor
