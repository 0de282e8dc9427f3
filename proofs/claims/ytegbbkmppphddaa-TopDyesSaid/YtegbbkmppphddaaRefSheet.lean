/- The reference's check of a sheet. -/
import Derived.Test.YtegbbkmppphddaaRef03
set_option linter.unusedVariables false
set_option linter.unusedSimpArgs false
namespace Go.Proofs.Ytegbbkmppphddaa
open Go.RowKit

structure Work where
  kind : Int
  at_ : Int
  word : ByteArray
instance : Inhabited Work := ⟨⟨0, 0, ⟨#[]⟩⟩⟩
structure Sheet where
  pairs : Int
  works : List Work
def Work.cells (x : Work) : List Value := [.int .i64 x.kind, .int .i64 x.at_, .string x.word]
structure SheetRd (w : World) (sA : Option Addr) (sc : Nat) (s : Sheet) : Prop where
  rows : Rows w sA 3 (s.works.map Work.cells)
  len : s.works.length ≤ sc
  cap : sc ≤ maxLen
  pairs : I64 s.pairs
  wf : ∀ x ∈ s.works, I64 x.kind ∧ I64 x.at_ ∧ x.word.size ≤ 9223372036854775807
theorem SheetRd.below {w w' : World} {sA : Option Addr} {sc : Nat} {s : Sheet} (h : SheetRd w sA sc s) (hb : Below w.heap.size w w') : SheetRd w' sA sc s := ⟨h.rows.below hb, h.len, h.cap, h.pairs, h.wf⟩
theorem SheetRd.below' {B : Nat} {w w' : World} {sA : Option Addr} {sc : Nat} {s : Sheet} (h : SheetRd w sA sc s) (hB : w.heap.size ≤ B) (hb : Below B w w') : SheetRd w' sA sc s := h.below (hb.mono hB)
@[reducible] def sheetVal (sA : Option Addr) (sc : Nat) (s : Sheet) : Value := .agg #[.int .i64 s.pairs, .slice sA s.works.length sc]
theorem Rows.work {w : World} {A : Option Addr} {l : List Work} (h : Rows w A 3 (l.map Work.cells)) {i : Nat} (hi : i < l.length) :
    ∃ b off, A = some ⟨b, off, none⟩ ∧ b < w.heap.size ∧ w.cell? ⟨b, off + i * 3, none⟩ = some (.int .i64 l[i].kind) ∧ w.cell? ⟨b, off + i * 3 + 1, none⟩ = some (.int .i64 l[i].at_) ∧
      w.cell? ⟨b, off + i * 3 + 2, none⟩ = some (.string l[i].word) := by
  rcases h with h | ⟨b, off, hA, hlt, hc⟩
  · simp at h; subst h; simp at hi
  · have hr : (l.map Work.cells)[i]? = some l[i].cells := by simp [hi]
    exact ⟨b, off, hA, hlt, hc i _ hr 0 _ rfl, hc i _ hr 1 _ rfl, hc i _ hr 2 _ rfl⟩

/-- Is this a work of a sheet of so many pairs? -/
def workB (n : Int) (x : Work) : Bool := !((!decide (x.kind = 1) && !decide (x.kind = 2)) || decide (x.at_ < 0) || decide (n - 2 < x.at_) || (decide (x.kind = 2) && !x.word.toList.isEmpty))
def sheetB (s : Sheet) : Int :=
  if 24 < s.pairs ∨ 400 < s.works.length then 3
  else if s.works.any (fun x => decide (16 < x.word.size)) then 3
  else if s.pairs < 2 then 2
  else if s.works.all (workB s.pairs) = false then 2
  else if s.works.all (fun x => decide (wordB x.word = 0)) then 0 else 6
theorem sheetB_long {s : Sheet} (h : 24 < s.pairs ∨ 400 < s.works.length) : sheetB s = 3 := by unfold sheetB; rw [if_pos h]
theorem sheetB_long2 {s : Sheet} {k : Nat} (hk : k < s.works.length) (h : 16 < s.works[k].word.size) : sheetB s = 3 := by
  unfold sheetB
  split
  · rfl
  · rw [if_pos (List.any_eq_true.2 ⟨s.works[k], List.getElem_mem hk, by simpa using h⟩)]
theorem any_long {s : Sheet} (h : ∀ j (hj : j < s.works.length), ¬ 16 < s.works[j].word.size) : (s.works.any fun x => decide (16 < x.word.size)) = false := by
  rw [List.any_eq_false]
  intro x hx
  obtain ⟨j, hj, rfl⟩ := List.getElem_of_mem hx
  simpa using h j hj
set_option maxRecDepth 100000 in
set_option maxHeartbeats 4000000 in
theorem refsheet_any {w : World} {sA : Option Addr} {sc : Nat} {s : Sheet} (h : SheetRd w sA sc s) :
    Calls Try.prog 5 #[sheetVal sA sc s] w fun e w' => e = .returned (.int .i64 (sheetB s)) ∧ Below w.heap.size w w' := by
  have hl := h.len
  have hc := h.cap
  have hp := h.pairs
  unfold I64 at hp
  unfold maxLen at hc
  have h1 := h.below (below_box (.cells #[.int .i64 s.pairs, .slice sA s.works.length sc] 24))
  by_cases hlong : 24 < s.pairs ∨ 400 < s.works.length
  · have HV := Lib.hid (sheetB_long hlong)
    by_cases h24 : 24 < s.pairs
    · have d : decide (24 < s.pairs) = true := by simp [h24]
      go_enter Try.func5, Try.ntmps5
      go_wp2
      go_ret
      exact ⟨by rw [HV.out]; rfl, below_box _⟩
    · have d : decide (24 < s.pairs) = false := by simp; omega
      have d2 : (400 : Int) < (s.works.length : Int) := by omega
      go_enter Try.func5, Try.ntmps5
      go_wp2
      go_ret
      exact ⟨by rw [HV.out]; rfl, below_box _⟩
  have d : decide (24 < s.pairs) = false := by simp; omega
  have d2 : ((s.works.length : Int)) ≤ 400 := by omega
  have HLONG := Lib.hid hlong
  clear hlong
  go_enter Try.func5, Try.ntmps5
  go_wp2
  go_loop [3] (fun i => ∃ k : Nat, k ≤ s.works.length ∧ i = .int .i64 k ∧ ∀ j (hj : j < s.works.length), j < k → ¬ 16 < s.works[j].word.size) (fun i => s.works.length - (intOf i).toNat)
  case atStart => exact ⟨0, by omega, rfl, fun j _ hj => by omega⟩
  case round =>
    obtain ⟨k, hk, rfl, hall⟩ := hrel
    have HALL := Lib.hid hall
    clear hall
    by_cases hlt : k < s.works.length
    · obtain ⟨b, off, rfl, hb, k0, k1, k2⟩ := h1.rows.work hlt
      have hwz := (h.wf _ (List.getElem_mem hlt)).2.2
      by_cases h16 : 16 < s.works[k].word.size
      · have HV := Lib.hid (sheetB_long2 hlt h16)
        have g : (16 : Int) < (s.works[k].word.size : Int) := by omega
        go_wp2
        go_ret
        exact ⟨by rw [HV.out]; rfl, below_box _⟩
      · have g : ((s.works[k].word.size : Int)) ≤ 16 := by omega
        go_wp2
        go_round
        case rel => exact ⟨k + 1, by omega, by go_num, fun j hj hjk => by
          by_cases e : j = k
          · subst e; exact h16
          · exact HALL.out j hj (by omega)⟩
        case measure => simp [intOf]; omega
    · obtain rfl : k = s.works.length := by omega
      have HA := Lib.hid (any_long fun j hj => HALL.out j hj hj)
      clear HALL hk hlt
      by_cases h2 : s.pairs < 2
      · have HV := Lib.hid (show sheetB s = 2 by unfold sheetB; rw [if_neg HLONG.out, HA.out, if_neg (by simp), if_pos h2])
        go_wp2
        go_ret
        exact ⟨by rw [HV.out]; rfl, below_box _⟩
      · have HV := Lib.hid (show sheetB s = if s.works.all (workB s.pairs) = false then 2 else if s.works.all (fun x => decide (wordB x.word = 0)) then 0 else 6 by unfold sheetB; rw [if_neg HLONG.out, HA.out, if_neg (by simp), if_neg h2])
        go_wp2
        go_loopw [4] (fun i wr => ∃ k : Nat, k ≤ s.works.length ∧ i = .int .i64 k ∧ Below (w.heap.size + 1) (w.alloc (.cells #[.int .i64 s.pairs, .slice sA s.works.length sc] 24)) wr ∧ ∀ j (hj : j < s.works.length), j < k → workB s.pairs s.works[j] = true) (fun i _ => s.works.length - (intOf i).toNat)
        case atStart => exact ⟨0, by omega, rfl, Below.refl _ _, fun j _ hj => by omega⟩
        case round =>
          obtain ⟨k, hk, rfl, hbl, hall⟩ := hrel
          obtain ⟨hcell, _⟩ := bcell hbl
          have hszr : w.heap.size + 1 ≤ wr.heap.size := by have := hbl.size; simp at this; omega
          have HALL := Lib.hid hall
          clear hall
          by_cases hlt : k < s.works.length
          · obtain ⟨b, off, rfl, hb, k0, k1, k2⟩ := h1.rows.work hlt
            simp only [World.size_alloc] at hb
            have hwz := h.wf _ (List.getElem_mem hlt)
            unfold I64 at hwz
            have hlti : (k : Int) < (s.works.length : Int) := by omega
            have HW : Hid (workB s.pairs s.works[k] = !((!decide (s.works[k].kind = 1) && !decide (s.works[k].kind = 2)) || decide (s.works[k].at_ < 0) || decide (s.pairs - 2 < s.works[k].at_) || (decide (s.works[k].kind = 2) && !s.works[k].word.toList.isEmpty))) := rfl
            have k0 := (hcell b _ hb).trans k0
            have k1 := (hcell b _ hb).trans k1
            have k2 := (hcell b _ hb).trans k2
            have hbl2 := hbl.alloc (by omega) (.cells #[.int .i64 s.works[k].kind, .int .i64 s.works[k].at_, .string s.works[k].word] 57)
            have hxr : w.heap.size < wr.heap.size := by omega
            have hbr : b < wr.heap.size := by omega
            have x0 := (hcell w.heap.size 0 (by omega)).trans (by simp : _ = some (.int .i64 s.pairs))
            have x1 := (hcell w.heap.size 1 (by omega)).trans (by simp : _ = some (.slice (some ⟨b, off, none⟩) s.works.length sc))
            generalize hkd : s.works[k].kind = kd at *
            generalize hat : s.works[k].at_ = at' at *
            generalize hwd : s.works[k].word = wd at *
            have HKD := Lib.hid hkd
            have HAT := Lib.hid hat
            have HWD := Lib.hid hwd
            clear hkd hat hwd hcell
            have hp2 : IntKind.i64.wrap (s.pairs - 2) = s.pairs - 2 := IntWalk.i64_in _ (by omega)
            by_cases h2' : kd = 2
            · subst h2'
              by_cases hc : at' < 0
              · have hcd : decide (at' < 0) = true := by simp [hc]
                have HB := Lib.hid (show sheetB s = 2 by rw [HV.out, if_pos (all_no hlt (by rw [HW.out]; simp [*]))])
                go_wp2
                go_ret
                exact ⟨by rw [HB.out]; rfl, (below_box _).trans (hbl2.mono (by omega))⟩
              · have hcd : decide (at' < 0) = false := by simp [hc]
                by_cases hd : s.pairs - 2 < at'
                · have hdd : decide (s.pairs - 2 < at') = true := by simp [hd]
                  have HB := Lib.hid (show sheetB s = 2 by rw [HV.out, if_pos (all_no hlt (by rw [HW.out]; simp [*]))])
                  go_wp2
                  go_ret
                  exact ⟨by rw [HB.out]; rfl, (below_box _).trans (hbl2.mono (by omega))⟩
                · have hdd : decide (s.pairs - 2 < at') = false := by simp [hd]
                  cases hem : (!wd.toList.isEmpty) with
                  | true =>
                    have HB := Lib.hid (show sheetB s = 2 by rw [HV.out, if_pos (all_no hlt (by rw [HW.out]; simp [*]))])
                    go_wp2
                    go_ret
                    exact ⟨by rw [HB.out]; rfl, (below_box _).trans (hbl2.mono (by omega))⟩
                  | false =>
                    have HG := Lib.hid (show workB s.pairs s.works[k] = true by rw [HW.out]; simp [*]; try omega)
                    go_wp2
                    go_roundw
                    case rel => exact ⟨k + 1, by omega, by go_num, hbl2, fun j hj hjk => by
                      by_cases e : j = k
                      · subst e; exact HG.out
                      · exact HALL.out j hj (by omega)⟩
                    case measure => simp [intOf]; omega
            · by_cases h1' : kd = 1
              · subst h1'
                by_cases hc : at' < 0
                · have hcd : decide (at' < 0) = true := by simp [hc]
                  have HB := Lib.hid (show sheetB s = 2 by rw [HV.out, if_pos (all_no hlt (by rw [HW.out]; simp [*]))])
                  go_wp2
                  go_ret
                  exact ⟨by rw [HB.out]; rfl, (below_box _).trans (hbl2.mono (by omega))⟩
                · have hcd : decide (at' < 0) = false := by simp [hc]
                  by_cases hd : s.pairs - 2 < at'
                  · have hdd : decide (s.pairs - 2 < at') = true := by simp [hd]
                    have HB := Lib.hid (show sheetB s = 2 by rw [HV.out, if_pos (all_no hlt (by rw [HW.out]; simp [*]))])
                    go_wp2
                    go_ret
                    exact ⟨by rw [HB.out]; rfl, (below_box _).trans (hbl2.mono (by omega))⟩
                  · have hdd : decide (s.pairs - 2 < at') = false := by simp [hd]
                    have HG := Lib.hid (show workB s.pairs s.works[k] = true by rw [HW.out]; simp [*]; try omega)
                    go_wp2
                    go_roundw
                    case rel => exact ⟨k + 1, by omega, by go_num, hbl2, fun j hj hjk => by
                      by_cases e : j = k
                      · subst e; exact HG.out
                      · exact HALL.out j hj (by omega)⟩
                    case measure => simp [intOf]; omega
              · have n1 : (kd != 1) = true := by simp [h1']
                have n2 : (kd != 2) = true := by simp [h2']
                have HB := Lib.hid (show sheetB s = 2 by rw [HV.out, if_pos (all_no hlt (by rw [HW.out]; simp [*]))])
                go_wp2
                go_ret
                exact ⟨by rw [HB.out]; rfl, (below_box _).trans (hbl2.mono (by omega))⟩
          · obtain rfl : k = s.works.length := by omega
            have HAW := Lib.hid (all_yes (f := workB s.pairs) (l := s.works) fun j hj => HALL.out j hj hj)
            have HV2 := Lib.hid (show sheetB s = if s.works.all (fun x => decide (wordB x.word = 0)) then 0 else 6 by rw [HV.out, HAW.out, if_neg (by simp)])
            have hlti : ¬ ((s.works.length : Int) < (s.works.length : Int)) := by omega
            go_wp2
            obtain ⟨wo, rfl⟩ : ∃ wo : World, wo = wr := ⟨_, rfl⟩
            clear hcell
            go_loopw [6] (fun i wr => ∃ k : Nat, k ≤ s.works.length ∧ i = .int .i64 k ∧ Below (w.heap.size + 1) (w.alloc (.cells #[.int .i64 s.pairs, .slice sA s.works.length sc] 24)) wr ∧ ∀ j (hj : j < s.works.length), j < k → wordB s.works[j].word = 0) (fun i _ => s.works.length - (intOf i).toNat)
            case atStart => exact ⟨0, by omega, rfl, hbl, fun j _ hj => by omega⟩
            case round =>
              clear hbl
              obtain ⟨k, hk, rfl, hbl, hall⟩ := hrel
              obtain ⟨hcell, _⟩ := bcell hbl
              have HALL2 := Lib.hid hall
              clear hall
              have x1 := (hcell w.heap.size 1 (by omega)).trans (by simp : _ = some (.slice sA s.works.length sc))
              by_cases hlt : k < s.works.length
              · obtain ⟨b, off, rfl, hb, k0, k1, k2⟩ := h1.rows.work hlt
                simp only [World.size_alloc] at hb
                have hwz := (h.wf _ (List.getElem_mem hlt)).2.2
                have hlti : (k : Int) < (s.works.length : Int) := by omega
                have k2 := (hcell b _ hb).trans k2
                clear hcell k0 k1
                go_wp2_with fail
                refine (refword_any s.works[k].word hwz).mono ?_
                rintro e w2 ⟨rfl, rfl⟩
                by_cases hw0 : wordB s.works[k].word = 0
                · have HW0 := Lib.hid hw0
                  rw [hw0]
                  clear hw0
                  go_wp2
                  go_roundw
                  case rel => exact ⟨k + 1, by omega, by go_num, hbl, fun j hj hjk => by
                    by_cases e : j = k
                    · subst e; exact HW0.out
                    · exact HALL2.out j hj (by omega)⟩
                  case measure => simp [intOf]; omega
                · have hne : (wordB s.works[k].word != 0) = true := by simp [hw0]
                  have HB := Lib.hid (show sheetB s = 6 by rw [HV2.out, all_no hlt (by simp [hw0])]; rfl)
                  clear hw0
                  go_wp2
                  go_ret
                  exact ⟨by rw [HB.out]; rfl, (below_box _).trans (hbl.mono (by omega))⟩
              · obtain rfl : k = s.works.length := by omega
                have HB := Lib.hid (show sheetB s = 0 by rw [HV2.out, all_yes (f := fun x => decide (wordB x.word = 0)) (l := s.works) fun j hj => by simpa using HALL2.out j hj hj]; rfl)
                have hlti : ¬ ((s.works.length : Int) < (s.works.length : Int)) := by omega
                go_wp2
                go_ret
                exact ⟨by rw [HB.out]; rfl, (below_box _).trans (hbl.mono (by omega))⟩
end Go.Proofs.Ytegbbkmppphddaa
