/- The program's check of a sheet in which the reference finds nothing wrong. -/
import Derived.Test.YtegbbkmppphddaaTWord
import Derived.Test.YtegbbkmppphddaaRefSheet
set_option linter.unusedVariables false
set_option linter.unusedSimpArgs false
namespace Go.Proofs.Ytegbbkmppphddaa
open Go.RowKit

structure Sheet.ok (s : Sheet) : Prop where
  pairs : 2 ≤ s.pairs ∧ s.pairs ≤ 24
  len : s.works.length ≤ 400
  size : ∀ x ∈ s.works, x.word.size ≤ 16
  work : ∀ x ∈ s.works, workB s.pairs x = true
  word : ∀ x ∈ s.works, wordB x.word = 0
theorem sheetB_ok {s : Sheet} (h : sheetB s = 0) : s.ok := by
  unfold sheetB at h
  split at h
  · omega
  · rename_i h1
    split at h
    · omega
    · rename_i h2
      split at h
      · omega
      · rename_i h3
        split at h
        · omega
        · rename_i h4
          split at h
          · rename_i h5
            refine ⟨by omega, by omega, fun x hx => ?_, fun x hx => ?_, fun x hx => by simpa using List.all_eq_true.1 h5 x hx⟩
            · simp only [List.any_eq_true, not_exists, not_and] at h2
              have := h2 x hx
              simpa using this
            · exact List.all_eq_true.1 (by simpa using h4) x hx
          · omega
theorem workB_ok {n : Int} {x : Work} (h : workB n x = true) : (x.kind = 1 ∨ x.kind = 2 ∧ x.word.toList.isEmpty = true) ∧ 0 ≤ x.at_ ∧ x.at_ ≤ n - 2 := by
  unfold workB at h
  simp only [Bool.not_or, Bool.and_eq_true, Bool.not_eq_true', Bool.not_and, Bool.not_not, Bool.or_eq_true, Bool.or_eq_false_iff, decide_eq_true_eq, decide_eq_false_iff_not] at h
  obtain ⟨⟨⟨h1, h2⟩, h3⟩, h4⟩ := h
  refine ⟨?_, by omega, by omega⟩
  rcases h1 with h1 | h1
  · exact .inl h1
  · rcases h4 with h4 | h4
    · exact absurd h1 h4
    · exact .inr ⟨h1, h4⟩
@[reducible] def workVal (x : Work) : Value := .agg #[.int .i64 x.kind, .int .i64 x.at_, .string x.word]
set_option maxHeartbeats 400000 in
theorem shcheck1_any {w : World} (x : Work) (hx : x.word.size ≤ 16) : Calls Try.prog 34 #[workVal x] w fun e w' => e = .returned (.bool false) ∧ Below w.heap.size w w' := by
  have g : decide ((16 : Int) < (x.word.size : Int)) = false := by simp; omega
  go_enter Try.func34, Try.ntmps34
  go_wp2
  go_ret
  exact ⟨rfl, below_box _⟩
set_option maxHeartbeats 1000000 in
theorem index_work {w : World} {sA : Option Addr} {sc : Nat} {l : List Work} (hr : Rows w sA 3 (l.map Work.cells)) (hl : l.length ≤ 400) (hx : ∀ x ∈ l, x.word.size ≤ 16) :
    Calls Try.prog 47 #[.slice sA l.length sc, .func (.func 34) #[] #[]] w fun e w' => e = .returned (.int .i64 (-1)) ∧ Below w.heap.size w w' := by
  have HX := Lib.hid hx
  clear hx
  have eg := enters_of (P := Try.prog) Try.func34 (by kernel_rfl) rfl
  go_enter Try.func47, Try.ntmps47
  go_wp2
  go_loopw [8] (fun i wr => ∃ k : Nat, k ≤ l.length ∧ i = .int .i64 k ∧ Below w.heap.size w wr) (fun i _ => l.length - (intOf i).toNat)
  case atStart => exact ⟨0, by omega, rfl, Below.refl _ _⟩
  case round =>
    obtain ⟨k, hk, rfl, hbl⟩ := hrel
    by_cases hlt : k < l.length
    · obtain ⟨b, off, rfl, hb, k0, k1, k2⟩ := (hr.below hbl).work hlt
      have hsx := HX.out _ (List.getElem_mem hlt)
      have hki : (k : Int) < (l.length : Int) := by omega
      go_wp2_with fail
      refine (shcheck1_any l[k] hsx).mono ?_
      rintro e w2 ⟨rfl, hb2⟩
      have hbl2 := hbl.trans (hb2.mono hbl.size)
      go_wp2
      go_roundw
      case rel => exact ⟨k + 1, by omega, by go_num, hbl2⟩
      case measure => simp [intOf]; omega
    · obtain rfl : k = l.length := by omega
      go_wp2
      go_ret
      exact ⟨rfl, hbl⟩
set_option maxHeartbeats 400000 in
theorem contains_work {w : World} {sA : Option Addr} {sc : Nat} {l : List Work} (hr : Rows w sA 3 (l.map Work.cells)) (hl : l.length ≤ 400) (hx : ∀ x ∈ l, x.word.size ≤ 16) :
    Calls Try.prog 33 #[.slice sA l.length sc, .func (.func 34) #[] #[]] w fun e w' => e = .returned (.bool false) ∧ Below w.heap.size w w' := by
  go_enter Try.func33, Try.ntmps33
  go_wp2_with fail
  refine (index_work hr hl hx).mono ?_
  rintro e w2 ⟨rfl, hb⟩
  go_wp2
  go_ret
  exact ⟨rfl, hb⟩

set_option maxRecDepth 100000 in
set_option maxHeartbeats 4000000 in
theorem sheet_ok {w : World} {sA : Option Addr} {sc : Nat} {s : Sheet} (h : SheetRd w sA sc s) (h0 : s.ok) :
    Calls Try.prog 15 #[sheetVal sA sc s] w fun e w' => e = .returned (.int .i64 0) ∧ Below w.heap.size w w' := by
  have hl := h.len
  have hc := h.cap
  have hp := h.pairs
  unfold I64 at hp
  unfold maxLen at hc
  have hbx := below_box (w := w) (.cells #[.int .i64 s.pairs, .slice sA s.works.length sc] 24)
  have h1 := h.below hbx
  have hpr := h0.pairs
  have hln := h0.len
  have d1 : decide (24 < s.pairs) = false := by simp; omega
  have d2 : decide ((400 : Int) < (s.works.length : Int)) = false := by simp; omega
  have d3 : decide (s.pairs < 2) = false := by simp; omega
  go_enter Try.func15, Try.ntmps15
  go_wp2_with fail
  refine (contains_work h1.rows hln h0.size).mono ?_
  rintro e w1 ⟨rfl, hb1⟩
  have hB := hbx.trans (hb1.mono hbx.size)
  have h1 := h1.below hb1
  have x0 := (hb1.cell (p := ⟨w.heap.size, 0, none⟩) (by simp)).trans (by simp : _ = some (.int .i64 s.pairs))
  have x1 := (hb1.cell (p := ⟨w.heap.size, 1, none⟩) (by simp)).trans (by simp : _ = some (.slice sA s.works.length sc))
  have hlt1 : w.heap.size < w1.heap.size := by have := hb1.size; simp at this; omega
  have H0 := Lib.hid h0
  clear hb1 hbx h0
  go_wp2_with fail
  obtain ⟨W, hW⟩ : ∃ W : World, W = w1 := ⟨_, rfl⟩
  have hB : Below w.heap.size w W := by rw [hW]; exact hB
  have h1 : SheetRd W sA sc s := by rw [hW]; exact h1
  have X0 : Hid (W.cell? ⟨w.heap.size, 0, none⟩ = some (.int .i64 s.pairs)) := by rw [hW]; exact x0
  have hlt1 : w.heap.size < W.heap.size := by rw [hW]; exact hlt1
  clear x0 x1
  go_loopw [3, 26] (fun g i wr => ∃ k : Nat, k ≤ s.works.length ∧ i = .int .i64 k ∧ g = .int .i64 0 ∧ Below W.heap.size W wr) (fun _ i _ => s.works.length - (intOf i).toNat)
  case atStart => exact ⟨0, by omega, rfl, rfl, by rw [hW]; exact Below.refl _ _⟩
  case round =>
    clear hW
    obtain ⟨k, hk, rfl, rfl, hbl⟩ := hrel
    have hB := hB.trans (hbl.mono hB.size)
    have x0 := (hbl.cell (p := ⟨w.heap.size, 0, none⟩) hlt1).trans X0.out
    have hlt2 : w.heap.size < wr.heap.size := Nat.lt_of_lt_of_le hlt1 hbl.size
    by_cases hlt : k < s.works.length
    · obtain ⟨b, off, rfl, hb, k0, k1, k2⟩ := (h1.below hbl).rows.work hlt
      have hwz := h1.wf _ (List.getElem_mem hlt)
      unfold I64 at hwz
      have hki : (k : Int) < (s.works.length : Int) := by omega
      obtain ⟨hkd, hat0, hat1⟩ := workB_ok (H0.out.work _ (List.getElem_mem hlt))
      have HWD := Lib.hid (H0.out.word _ (List.getElem_mem hlt))
      generalize s.works[k].kind = kd at *
      generalize s.works[k].at_ = at' at *
      generalize s.works[k].word = wd at *
      have hp2 : IntKind.i64.wrap (s.pairs - 2) = s.pairs - 2 := IntWalk.i64_in _ (by omega)
      have hcd : decide (at' < 0) = false := by simp; omega
      have hdd : decide (s.pairs - 2 < at') = false := by simp; omega
      have hbx2 := below_box (w := wr) (.cells #[.int .i64 kd, .int .i64 at', .string wd] 57)
      have hBE := hbl.trans (hbx2.mono hbl.size)
      have hwzz := hwz.2.2
      rcases hkd with rfl | ⟨rfl, hem⟩
      · go_wp2_with fail
        refine (word_any wd hwzz).mono ?_
        rintro e w3 ⟨rfl, rfl⟩
        rw [HWD.out]
        go_wp2
        go_roundw
        case rel => exact ⟨k + 1, by omega, by go_num, rfl, hBE⟩
        case measure => simp [intOf]; omega
      · have hem2 : (!wd.toList.isEmpty) = false := by simp [hem]
        go_wp2_with fail
        refine (word_any wd hwzz).mono ?_
        rintro e w3 ⟨rfl, rfl⟩
        rw [HWD.out]
        go_wp2
        go_roundw
        case rel => exact ⟨k + 1, by omega, by go_num, rfl, hBE⟩
        case measure => simp [intOf]; omega
    · obtain rfl : k = s.works.length := by omega
      have hki : ¬ ((s.works.length : Int) < (s.works.length : Int)) := by omega
      go_wp2
      go_ret
      exact ⟨rfl, hB⟩
end Go.Proofs.Ytegbbkmppphddaa
