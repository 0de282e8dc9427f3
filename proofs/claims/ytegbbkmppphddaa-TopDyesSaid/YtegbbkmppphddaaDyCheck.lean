/- The program's check of a task. -/
import Derived.Test.YtegbbkmppphddaaClothA
import Derived.Test.YtegbbkmppphddaaMinMax
import Derived.Test.YtegbbkmppphddaaRefA
set_option linter.unusedVariables false
set_option linter.unusedSimpArgs false
namespace Go.Proofs.Ytegbbkmppphddaa
open Go.RowKit

set_option maxHeartbeats 400000 in
theorem ck1_any {w : World} (T : Nat) (cA : Option Addr) (len cc : Nat) (n : Int) (h : w.cell? ⟨T, 1, none⟩ = some (.slice cA len cc)) :
    Calls Try.prog 24 #[.int .i64 n, .pointer (some ⟨T, 0, none⟩)] w fun e w' => e = .returned (.bool (isB len n)) ∧ w = w' := by
  by_cases h0 : 0 ≤ n
  · by_cases h1 : n < len
    all_goals
      go_enter Try.func24, Try.ntmps24
      go_wp2
      go_ret
      exact ⟨by simp [isB, h0, h1], rfl⟩
  · go_enter Try.func24, Try.ntmps24
    go_wp2
    go_ret
    exact ⟨by simp [isB]; omega, rfl⟩

theorem supply_rd {w W : World} {a b c d e : Value} {t : Task} (hw : t.wf)
    (hb : Below (w.heap.size + 1) (w.alloc (.cells #[a, b, c, d, e, .int .i64 t.s0, .int .i64 t.s1, .int .i64 t.s2, .int .i64 t.s3, .int .i64 t.s4, .int .i64 t.s5] 41)) W) : IntsRd W (some ⟨w.heap.size, 5, none⟩) 6 t.supply := by
  refine ⟨.inr ⟨w.heap.size, 5, rfl, by have := hb.size; simp at this; omega, ?_⟩, by simp [Task.supply], fun h => (by cases h), by simp [maxLen], ?_⟩
  · intro i r hr j v hv
    have hi : i < 6 := by have := (List.getElem?_eq_some_iff.1 hr).1; simpa [Task.supply] using this
    rw [List.getElem?_map] at hr
    obtain ⟨x, hx, rfl⟩ : ∃ x, t.supply[i]? = some x ∧ intCells x = r := by
      cases h : t.supply[i]? with
      | none => rw [h] at hr; cases hr
      | some x => rw [h] at hr; exact ⟨x, rfl, by simpa using hr⟩
    obtain rfl : j = 0 := by have := (List.getElem?_eq_some_iff.1 hv).1; simp [intCells] at this; exact this
    obtain rfl : .int .i64 x = v := by simpa [intCells] using hv
    have := (hb.cell (p := ⟨w.heap.size, 5 + i, none⟩) (by simp)).trans (box_supply t i hi)
    rw [hx] at this
    simpa using this
  · intro x hx
    simp only [Task.supply, List.mem_cons, List.not_mem_nil, or_false] at hx
    rcases hx with rfl | rfl | rfl | rfl | rfl | rfl
    · exact hw.s0
    · exact hw.s1
    · exact hw.s2
    · exact hw.s3
    · exact hw.s4
    · exact hw.s5
theorem supply_all {t : Task} : supplyOk t = true ↔ ∀ x ∈ t.supply, 0 ≤ x ∧ x ≤ 100 := by
  unfold supplyOk
  rw [List.all_eq_true]
  constructor
  · intro h x hx
    obtain ⟨i, hi, rfl⟩ := List.getElem_of_mem hx
    have hi' : i < 6 := by simpa [Task.supply] using hi
    have := h i (by simpa using hi')
    rw [List.getElem?_eq_getElem hi] at this
    simpa using this
  · intro h i hi
    have hi' : i < t.supply.length := by simpa [Task.supply] using hi
    have := h _ (List.getElem_mem hi')
    rw [List.getElem?_eq_getElem hi']
    simpa using this

set_option maxRecDepth 100000 in
set_option maxHeartbeats 4000000 in
theorem dycheck_good {w : World} {cA : Option Addr} {cc : Nat} {pA : Option Addr} {pc : Nat} {wA : Option Addr} {wc : Nat} {uA : Option Addr} {uc : Nat} {t : Task} (h : TaskRd w cA cc pA pc wA wc uA uc t)
    (h0 : clothB t.cloth = 0) (h1 : t.cloth.threads ≤ 16) (h2 : t.wishes.length ≤ 100) (h3 : t.unlike.length ≤ 100) :
    Calls Try.prog 8 #[taskVal cA cc pA pc wA wc uA uc t] w fun e w' => e = .returned (.int .i64 (goodE (goodB t))) ∧ Below w.heap.size w w' := by
  have hT1 := h.below (below_box (.cells #[.int .i64 t.cloth.threads, .slice cA t.cloth.crosses.length cc, .slice pA t.cloth.pins.length pc, .slice wA t.wishes.length wc, .slice uA t.unlike.length uc,
      .int .i64 t.s0, .int .i64 t.s1, .int .i64 t.s2, .int .i64 t.s3, .int .i64 t.s4, .int .i64 t.s5] 41))
  have H0 := Lib.hid h0
  have HWF := Lib.hid h.wf
  clear h0
  have hcl := h.cloth.clen
  have hcm := h.cloth.ccap
  unfold maxLen at hcm
  have hwl := h.wlen
  have hwc := h.wcap
  have hul := h.ulen
  have huc := h.ucap
  unfold maxLen at hwc huc
  have HSB : Hid (goodB t = (t.wishes.all (wishOk t.cloth.crosses.length) && t.unlike.all (pairOk t.cloth.crosses.length) && supplyOk t)) := rfl
  by_cases hmx : t.wishes.length < t.unlike.length
  · skip
    have e1 : decide (16 < t.cloth.threads) = false := by simp; omega
    have e2 : decide (100 < (t.wishes.length : Int)) = false := by simp; omega
    have e3 : decide (100 < (t.unlike.length : Int)) = false := by simp; omega
    go_enter Try.func8, Try.ntmps8
    go_wp2_with fail
    refine (check_any hT1.cloth).mono ?_
    rintro e w1 ⟨rfl, hb1⟩
    rw [H0.out]
    simp only [World.size_alloc] at hb1
    obtain ⟨hcell, _⟩ := bcell hb1
    have hw1 : w.heap.size + 1 ≤ w1.heap.size := by have := hb1.size; simp at this; omega
    go_wp2_with fail
    clear e1 e2 e3 hmx
    refine (min_any (supply_rd HWF.out hb1) (by simp [Task.supply])).mono ?_
    rintro e w2 ⟨vmin, rfl, m1, m2, hb2'⟩
    have hb2 := hb1.trans (hb2'.mono hw1)
    have hw2 : w.heap.size + 1 ≤ w2.heap.size := Nat.le_trans hw1 hb2'.size
    clear hcell hb2'
    obtain ⟨hcell, _⟩ := bcell hb2
    by_cases hmn : 0 ≤ vmin
    · go_wp2_with fail
      refine (max_any (supply_rd HWF.out hb2) (by simp [Task.supply])).mono ?_
      rintro e w3 ⟨vmax, rfl, m3, m4, hb3'⟩
      have hb3 := hb2.trans (hb3'.mono hw2)
      have hw3 : w.heap.size + 1 ≤ w3.heap.size := Nat.le_trans hw2 hb3'.size
      clear hcell hb3'
      obtain ⟨hcell, _⟩ := bcell hb3
      by_cases hmm : vmax ≤ 100
      · have HSUP := Lib.hid (supply_all.2 fun x hx => ⟨Int.le_trans hmn (m2 x hx), Int.le_trans (m4 x hx) hmm⟩)
        clear m1 m2 m3 m4
        go_wp2_with fail
        go_loopw [5, 44] (fun g i wr => ∃ m : Nat, m ≤ t.wishes.length ∧ i = .int .i64 m ∧ g = .bool ((t.wishes.take m).all (wishOk t.cloth.crosses.length)) ∧ Below (w.heap.size + 1) (w.alloc (.cells #[.int .i64 t.cloth.threads, .slice cA t.cloth.crosses.length cc, .slice pA t.cloth.pins.length pc, .slice wA t.wishes.length wc, .slice uA t.unlike.length uc,
          .int .i64 t.s0, .int .i64 t.s1, .int .i64 t.s2, .int .i64 t.s3, .int .i64 t.s4, .int .i64 t.s5] 41)) wr) (fun _ i _ => t.wishes.length - (intOf i).toNat)
        case atStart => exact ⟨0, by omega, rfl, by first | rfl | (refine congrArg Value.bool ?_; simp; done) | (refine congrArg Value.bool ?_; simp; omega), hb3⟩
        case round =>
          clear hb3 hmm hmn
          obtain ⟨m, hm, rfl, rfl, hbl⟩ := hrel
          obtain ⟨hcell, _⟩ := bcell hbl
          have hszr : w.heap.size + 1 ≤ wr.heap.size := by have := hbl.size; simp at this; omega
          by_cases hml : m < t.wishes.length
          · obtain ⟨b, off, rfl, hb, k0, k1⟩ := h.wishes.wish hml
            have hb1 : b < w.heap.size + 1 := by omega
            have hend : ∀ o, Below (w.heap.size + 1) (w.alloc (.cells #[.int .i64 t.cloth.threads, .slice cA t.cloth.crosses.length cc, .slice pA t.cloth.pins.length pc, .slice (some ⟨b, off, none⟩) t.wishes.length wc, .slice uA t.unlike.length uc,
          .int .i64 t.s0, .int .i64 t.s1, .int .i64 t.s2, .int .i64 t.s3, .int .i64 t.s4, .int .i64 t.s5] 41)) (wr.alloc o) := fun o => hbl.alloc hszr o
            have HEND := Lib.hid hend
            clear hend
            have hck : ∀ o, (wr.alloc o).cell? ⟨w.heap.size, 1, none⟩ = some (.slice cA t.cloth.crosses.length cc) := fun o => (HEND.out o).cell (p := ⟨w.heap.size, 1, none⟩) (by simp)|>.trans (by simp)
            have HCK := Lib.hid hck
            clear hck
            have HS := Lib.hid (all_take_succ (f := wishOk t.cloth.crosses.length) hml)
            have hal2 := (h.wf.wishes _ (List.getElem_mem hml)).2
            have HW : Hid (wishOk t.cloth.crosses.length t.wishes[m] = (isB t.cloth.crosses.length t.wishes[m].cross && decide (t.wishes[m].allowed < 64))) := rfl
            generalize t.wishes[m].cross = cr at *
            generalize t.wishes[m].allowed = al at *
            cases hg : (t.wishes.take m).all (wishOk t.cloth.crosses.length) with
            | false =>
              have HG := Lib.hid hg
              clear hg
              go_wp2
              go_roundw
              case rel => exact ⟨m + 1, by omega, by go_num, by rw [HS.out, HG.out]; rfl, HEND.out _⟩
              case measure => simp [intOf]; omega
            | true =>
              have HG := Lib.hid hg
              clear hg
              cases hi : isB t.cloth.crosses.length cr with
              | false =>
                have HI := Lib.hid hi
                clear hi
                go_wp2_with (go_at_call 24; refine (ck1_any w.heap.size cA t.cloth.crosses.length cc _ (HCK.out _)).mono ?_; rintro e w4 ⟨rfl, rfl⟩; rw [HI.out])
                go_roundw
                case rel => exact ⟨m + 1, by omega, by go_num, by rw [HS.out, HG.out, HW.out, HI.out]; rfl, HEND.out _⟩
                case measure => simp [intOf]; omega
              | true =>
                have HI := Lib.hid hi
                clear hi
                go_wp2_with (go_at_call 24; refine (ck1_any w.heap.size cA t.cloth.crosses.length cc _ (HCK.out _)).mono ?_; rintro e w4 ⟨rfl, rfl⟩; rw [HI.out])
                go_roundw
                case rel => exact ⟨m + 1, by omega, by go_num, by rw [HS.out, HG.out, HW.out, HI.out]; refine congrArg Value.bool ?_; rw [Bool.eq_iff_iff]; simp; omega, HEND.out _⟩
                case measure => simp [intOf]; omega
          · obtain rfl : m = t.wishes.length := by omega
            clear hml hm
            rw [List.take_length]
            generalize hg1 : t.wishes.all (wishOk t.cloth.crosses.length) = g1
            have HG1 := Lib.hid hg1
            clear hg1
            go_wp2
            obtain ⟨wo, rfl⟩ : ∃ wo : World, wo = wr := ⟨_, rfl⟩
            clear hcell
            go_loopw [5, 65] (fun g i wr => ∃ m : Nat, m ≤ t.unlike.length ∧ i = .int .i64 m ∧ g = .bool (g1 && (t.unlike.take m).all (pairOk t.cloth.crosses.length)) ∧ Below (w.heap.size + 1) (w.alloc (.cells #[.int .i64 t.cloth.threads, .slice cA t.cloth.crosses.length cc, .slice pA t.cloth.pins.length pc, .slice wA t.wishes.length wc, .slice uA t.unlike.length uc,
          .int .i64 t.s0, .int .i64 t.s1, .int .i64 t.s2, .int .i64 t.s3, .int .i64 t.s4, .int .i64 t.s5] 41)) wr) (fun _ i _ => t.unlike.length - (intOf i).toNat)
            case atStart => exact ⟨0, by omega, rfl, by simp, hbl⟩
            case round =>
              clear hbl hszr
              obtain ⟨m, hm, rfl, rfl, hbl⟩ := hrel
              obtain ⟨hcell, _⟩ := bcell hbl
              have hszr : w.heap.size + 1 ≤ wr.heap.size := by have := hbl.size; simp at this; omega
              by_cases hml : m < t.unlike.length
              · obtain ⟨b, off, rfl, hb, k0, k1⟩ := h.unlike.pair hml
                have hb1 : b < w.heap.size + 1 := by omega
                have hend : ∀ o, Below (w.heap.size + 1) (w.alloc (.cells #[.int .i64 t.cloth.threads, .slice cA t.cloth.crosses.length cc, .slice pA t.cloth.pins.length pc, .slice wA t.wishes.length wc, .slice (some ⟨b, off, none⟩) t.unlike.length uc,
          .int .i64 t.s0, .int .i64 t.s1, .int .i64 t.s2, .int .i64 t.s3, .int .i64 t.s4, .int .i64 t.s5] 41)) (wr.alloc o) := fun o => hbl.alloc hszr o
                have HEND := Lib.hid hend
                clear hend
                have hck : ∀ o, (wr.alloc o).cell? ⟨w.heap.size, 1, none⟩ = some (.slice cA t.cloth.crosses.length cc) := fun o => (HEND.out o).cell (p := ⟨w.heap.size, 1, none⟩) (by simp)|>.trans (by simp)
                have HCK := Lib.hid hck
                clear hck
                have HS := Lib.hid (all_take_succ (f := pairOk t.cloth.crosses.length) hml)
                have HW : Hid (pairOk t.cloth.crosses.length t.unlike[m] = (isB t.cloth.crosses.length t.unlike[m].1 && isB t.cloth.crosses.length t.unlike[m].2 && !decide (t.unlike[m].1 = t.unlike[m].2))) := rfl
                generalize t.unlike[m].1 = ua at *
                generalize t.unlike[m].2 = ub at *
                cases hg : (g1 && (t.unlike.take m).all (pairOk t.cloth.crosses.length)) with
                | false =>
                  have HG := Lib.hid hg
                  clear hg
                  go_wp2
                  go_roundw
                  case rel => exact ⟨m + 1, by omega, by go_num, by rw [HS.out, ← Bool.and_assoc, HG.out]; rfl, HEND.out _⟩
                  case measure => simp [intOf]; omega
                | true =>
                  have HG := Lib.hid hg
                  clear hg
                  cases hi : isB t.cloth.crosses.length ua with
                  | false =>
                    have HI := Lib.hid hi
                    clear hi
                    go_wp2_with (go_at_call 24; refine (ck1_any w.heap.size cA t.cloth.crosses.length cc _ (HCK.out _)).mono ?_; rintro e w4 ⟨rfl, rfl⟩; rw [HI.out])
                    go_roundw
                    case rel => exact ⟨m + 1, by omega, by go_num, by rw [HS.out, ← Bool.and_assoc, HG.out, HW.out, HI.out]; rfl, HEND.out _⟩
                    case measure => simp [intOf]; omega
                  | true =>
                    have HI := Lib.hid hi
                    clear hi
                    cases hi2 : isB t.cloth.crosses.length ub with
                    | false =>
                      have HI2 := Lib.hid hi2
                      clear hi2
                      go_wp2_with (go_at_call 24; refine (ck1_any w.heap.size cA t.cloth.crosses.length cc _ (HCK.out _)).mono ?_; rintro e w4 ⟨rfl, rfl⟩; first | rw [HI.out] | rw [HI2.out])
                      go_roundw
                      case rel => exact ⟨m + 1, by omega, by go_num, by rw [HS.out, ← Bool.and_assoc, HG.out, HW.out, HI.out, HI2.out]; rfl, HEND.out _⟩
                      case measure => simp [intOf]; omega
                    | true =>
                      have HI2 := Lib.hid hi2
                      clear hi2
                      go_wp2_with (go_at_call 24; refine (ck1_any w.heap.size cA t.cloth.crosses.length cc _ (HCK.out _)).mono ?_; rintro e w4 ⟨rfl, rfl⟩; first | rw [HI.out] | rw [HI2.out])
                      go_roundw
                      case rel => exact ⟨m + 1, by omega, by go_num, by rw [HS.out, ← Bool.and_assoc, HG.out, HW.out, HI.out, HI2.out]; refine congrArg Value.bool ?_; rw [Bool.eq_iff_iff]; simp, HEND.out _⟩
                      case measure => simp [intOf]; omega
              · obtain rfl : m = t.unlike.length := by omega
                rw [List.take_length]
                cases hg : (g1 && t.unlike.all (pairOk t.cloth.crosses.length)) with
                | false =>
                  have HG := Lib.hid hg
                  clear hg
                  go_wp2
                  go_ret
                  exact ⟨by rw [HSB.out, HG1.out, HG.out]; rfl, (below_box _).trans (hbl.mono (by omega))⟩
                | true =>
                  have HG := Lib.hid hg
                  clear hg
                  go_wp2
                  go_ret
                  exact ⟨by rw [HSB.out, HG1.out, HG.out, HSUP.out]; rfl, (below_box _).trans (hbl.mono (by omega))⟩
      · have hno : Hid (goodB t = false) := by
          unfold Hid
          rw [HSB.out, show supplyOk t = false from (Bool.eq_false_iff.2 fun hs => hmm (supply_all.1 hs _ m3).2), Bool.and_false]
        clear m1 m2 m3 m4
        go_wp2_with fail
        go_loopw [5, 44] (fun g i wr => ∃ m : Nat, m ≤ t.wishes.length ∧ i = .int .i64 m ∧ g = .bool false ∧ Below (w.heap.size + 1) (w.alloc (.cells #[.int .i64 t.cloth.threads, .slice cA t.cloth.crosses.length cc, .slice pA t.cloth.pins.length pc, .slice wA t.wishes.length wc, .slice uA t.unlike.length uc,
          .int .i64 t.s0, .int .i64 t.s1, .int .i64 t.s2, .int .i64 t.s3, .int .i64 t.s4, .int .i64 t.s5] 41)) wr) (fun _ i _ => t.wishes.length - (intOf i).toNat)
        case atStart => exact ⟨0, by omega, rfl, by first | rfl | (refine congrArg Value.bool ?_; simp; done) | (refine congrArg Value.bool ?_; simp; omega), hb3⟩
        case round =>
          clear hb3
          (try clear hmm); (try clear hmn)
          obtain ⟨m, hm, rfl, rfl, hbl⟩ := hrel
          obtain ⟨hcell, _⟩ := bcell hbl
          have hszr : w.heap.size + 1 ≤ wr.heap.size := by have := hbl.size; simp at this; omega
          by_cases hml : m < t.wishes.length
          · obtain ⟨b, off, rfl, hb, k0, k1⟩ := h.wishes.wish hml
            have hb1 : b < w.heap.size + 1 := by omega
            have hend : ∀ o, Below (w.heap.size + 1) (w.alloc (.cells #[.int .i64 t.cloth.threads, .slice cA t.cloth.crosses.length cc, .slice pA t.cloth.pins.length pc, .slice (some ⟨b, off, none⟩) t.wishes.length wc, .slice uA t.unlike.length uc,
          .int .i64 t.s0, .int .i64 t.s1, .int .i64 t.s2, .int .i64 t.s3, .int .i64 t.s4, .int .i64 t.s5] 41)) (wr.alloc o) := fun o => hbl.alloc hszr o
            have HEND := Lib.hid hend
            clear hend
            go_wp2
            go_roundw
            case rel => exact ⟨m + 1, by omega, by go_num, rfl, HEND.out _⟩
            case measure => simp [intOf]; omega
          · obtain rfl : m = t.wishes.length := by omega
            clear hml hm
            go_wp2
            obtain ⟨wo, rfl⟩ : ∃ wo : World, wo = wr := ⟨_, rfl⟩
            clear hcell
            go_loopw [5, 65] (fun g i wr => ∃ m : Nat, m ≤ t.unlike.length ∧ i = .int .i64 m ∧ g = .bool false ∧ Below (w.heap.size + 1) (w.alloc (.cells #[.int .i64 t.cloth.threads, .slice cA t.cloth.crosses.length cc, .slice pA t.cloth.pins.length pc, .slice wA t.wishes.length wc, .slice uA t.unlike.length uc,
          .int .i64 t.s0, .int .i64 t.s1, .int .i64 t.s2, .int .i64 t.s3, .int .i64 t.s4, .int .i64 t.s5] 41)) wr) (fun _ i _ => t.unlike.length - (intOf i).toNat)
            case atStart => exact ⟨0, by omega, rfl, rfl, hbl⟩
            case round =>
              clear hbl hszr
              obtain ⟨m, hm, rfl, rfl, hbl⟩ := hrel
              obtain ⟨hcell, _⟩ := bcell hbl
              have hszr : w.heap.size + 1 ≤ wr.heap.size := by have := hbl.size; simp at this; omega
              by_cases hml : m < t.unlike.length
              · obtain ⟨b, off, rfl, hb, k0, k1⟩ := h.unlike.pair hml
                have hb1 : b < w.heap.size + 1 := by omega
                have hend : ∀ o, Below (w.heap.size + 1) (w.alloc (.cells #[.int .i64 t.cloth.threads, .slice cA t.cloth.crosses.length cc, .slice pA t.cloth.pins.length pc, .slice wA t.wishes.length wc, .slice (some ⟨b, off, none⟩) t.unlike.length uc,
          .int .i64 t.s0, .int .i64 t.s1, .int .i64 t.s2, .int .i64 t.s3, .int .i64 t.s4, .int .i64 t.s5] 41)) (wr.alloc o) := fun o => hbl.alloc hszr o
                have HEND := Lib.hid hend
                clear hend
                go_wp2
                go_roundw
                case rel => exact ⟨m + 1, by omega, by go_num, rfl, HEND.out _⟩
                case measure => simp [intOf]; omega
              · obtain rfl : m = t.unlike.length := by omega
                go_wp2
                go_ret
                exact ⟨by rw [hno.out]; rfl, (below_box _).trans (hbl.mono (by omega))⟩
    · have hno : Hid (goodB t = false) := by
        unfold Hid
        rw [HSB.out, show supplyOk t = false from (Bool.eq_false_iff.2 fun hs => hmn (supply_all.1 hs _ m1).1), Bool.and_false]
      clear m1 m2
      obtain ⟨w3, rfl⟩ : ∃ w3 : World, w3 = w2 := ⟨_, rfl⟩
      have hb3 := hb2
      clear hb2
      go_wp2_with fail
      go_loopw [5, 44] (fun g i wr => ∃ m : Nat, m ≤ t.wishes.length ∧ i = .int .i64 m ∧ g = .bool false ∧ Below (w.heap.size + 1) (w.alloc (.cells #[.int .i64 t.cloth.threads, .slice cA t.cloth.crosses.length cc, .slice pA t.cloth.pins.length pc, .slice wA t.wishes.length wc, .slice uA t.unlike.length uc,
        .int .i64 t.s0, .int .i64 t.s1, .int .i64 t.s2, .int .i64 t.s3, .int .i64 t.s4, .int .i64 t.s5] 41)) wr) (fun _ i _ => t.wishes.length - (intOf i).toNat)
      case atStart => exact ⟨0, by omega, rfl, by first | rfl | (refine congrArg Value.bool ?_; simp; done) | (refine congrArg Value.bool ?_; simp; omega), hb3⟩
      case round =>
        clear hb3
        (try clear hmm); (try clear hmn)
        obtain ⟨m, hm, rfl, rfl, hbl⟩ := hrel
        obtain ⟨hcell, _⟩ := bcell hbl
        have hszr : w.heap.size + 1 ≤ wr.heap.size := by have := hbl.size; simp at this; omega
        by_cases hml : m < t.wishes.length
        · obtain ⟨b, off, rfl, hb, k0, k1⟩ := h.wishes.wish hml
          have hb1 : b < w.heap.size + 1 := by omega
          have hend : ∀ o, Below (w.heap.size + 1) (w.alloc (.cells #[.int .i64 t.cloth.threads, .slice cA t.cloth.crosses.length cc, .slice pA t.cloth.pins.length pc, .slice (some ⟨b, off, none⟩) t.wishes.length wc, .slice uA t.unlike.length uc,
        .int .i64 t.s0, .int .i64 t.s1, .int .i64 t.s2, .int .i64 t.s3, .int .i64 t.s4, .int .i64 t.s5] 41)) (wr.alloc o) := fun o => hbl.alloc hszr o
          have HEND := Lib.hid hend
          clear hend
          go_wp2
          go_roundw
          case rel => exact ⟨m + 1, by omega, by go_num, rfl, HEND.out _⟩
          case measure => simp [intOf]; omega
        · obtain rfl : m = t.wishes.length := by omega
          clear hml hm
          go_wp2
          obtain ⟨wo, rfl⟩ : ∃ wo : World, wo = wr := ⟨_, rfl⟩
          clear hcell
          go_loopw [5, 65] (fun g i wr => ∃ m : Nat, m ≤ t.unlike.length ∧ i = .int .i64 m ∧ g = .bool false ∧ Below (w.heap.size + 1) (w.alloc (.cells #[.int .i64 t.cloth.threads, .slice cA t.cloth.crosses.length cc, .slice pA t.cloth.pins.length pc, .slice wA t.wishes.length wc, .slice uA t.unlike.length uc,
        .int .i64 t.s0, .int .i64 t.s1, .int .i64 t.s2, .int .i64 t.s3, .int .i64 t.s4, .int .i64 t.s5] 41)) wr) (fun _ i _ => t.unlike.length - (intOf i).toNat)
          case atStart => exact ⟨0, by omega, rfl, rfl, hbl⟩
          case round =>
            clear hbl hszr
            obtain ⟨m, hm, rfl, rfl, hbl⟩ := hrel
            obtain ⟨hcell, _⟩ := bcell hbl
            have hszr : w.heap.size + 1 ≤ wr.heap.size := by have := hbl.size; simp at this; omega
            by_cases hml : m < t.unlike.length
            · obtain ⟨b, off, rfl, hb, k0, k1⟩ := h.unlike.pair hml
              have hb1 : b < w.heap.size + 1 := by omega
              have hend : ∀ o, Below (w.heap.size + 1) (w.alloc (.cells #[.int .i64 t.cloth.threads, .slice cA t.cloth.crosses.length cc, .slice pA t.cloth.pins.length pc, .slice wA t.wishes.length wc, .slice (some ⟨b, off, none⟩) t.unlike.length uc,
        .int .i64 t.s0, .int .i64 t.s1, .int .i64 t.s2, .int .i64 t.s3, .int .i64 t.s4, .int .i64 t.s5] 41)) (wr.alloc o) := fun o => hbl.alloc hszr o
              have HEND := Lib.hid hend
              clear hend
              go_wp2
              go_roundw
              case rel => exact ⟨m + 1, by omega, by go_num, rfl, HEND.out _⟩
              case measure => simp [intOf]; omega
            · obtain rfl : m = t.unlike.length := by omega
              go_wp2
              go_ret
              exact ⟨by rw [hno.out]; rfl, (below_box _).trans (hbl.mono (by omega))⟩
  · skip
    have e1 : decide (16 < t.cloth.threads) = false := by simp; omega
    have e2 : decide (100 < (t.wishes.length : Int)) = false := by simp; omega
    have e3 : decide (100 < (t.unlike.length : Int)) = false := by simp; omega
    go_enter Try.func8, Try.ntmps8
    go_wp2_with fail
    refine (check_any hT1.cloth).mono ?_
    rintro e w1 ⟨rfl, hb1⟩
    rw [H0.out]
    simp only [World.size_alloc] at hb1
    obtain ⟨hcell, _⟩ := bcell hb1
    have hw1 : w.heap.size + 1 ≤ w1.heap.size := by have := hb1.size; simp at this; omega
    go_wp2_with fail
    clear e1 e2 e3 hmx
    refine (min_any (supply_rd HWF.out hb1) (by simp [Task.supply])).mono ?_
    rintro e w2 ⟨vmin, rfl, m1, m2, hb2'⟩
    have hb2 := hb1.trans (hb2'.mono hw1)
    have hw2 : w.heap.size + 1 ≤ w2.heap.size := Nat.le_trans hw1 hb2'.size
    clear hcell hb2'
    obtain ⟨hcell, _⟩ := bcell hb2
    by_cases hmn : 0 ≤ vmin
    · go_wp2_with fail
      refine (max_any (supply_rd HWF.out hb2) (by simp [Task.supply])).mono ?_
      rintro e w3 ⟨vmax, rfl, m3, m4, hb3'⟩
      have hb3 := hb2.trans (hb3'.mono hw2)
      have hw3 : w.heap.size + 1 ≤ w3.heap.size := Nat.le_trans hw2 hb3'.size
      clear hcell hb3'
      obtain ⟨hcell, _⟩ := bcell hb3
      by_cases hmm : vmax ≤ 100
      · have HSUP := Lib.hid (supply_all.2 fun x hx => ⟨Int.le_trans hmn (m2 x hx), Int.le_trans (m4 x hx) hmm⟩)
        clear m1 m2 m3 m4
        go_wp2_with fail
        go_loopw [5, 44] (fun g i wr => ∃ m : Nat, m ≤ t.wishes.length ∧ i = .int .i64 m ∧ g = .bool ((t.wishes.take m).all (wishOk t.cloth.crosses.length)) ∧ Below (w.heap.size + 1) (w.alloc (.cells #[.int .i64 t.cloth.threads, .slice cA t.cloth.crosses.length cc, .slice pA t.cloth.pins.length pc, .slice wA t.wishes.length wc, .slice uA t.unlike.length uc,
          .int .i64 t.s0, .int .i64 t.s1, .int .i64 t.s2, .int .i64 t.s3, .int .i64 t.s4, .int .i64 t.s5] 41)) wr) (fun _ i _ => t.wishes.length - (intOf i).toNat)
        case atStart => exact ⟨0, by omega, rfl, by first | rfl | (refine congrArg Value.bool ?_; simp; done) | (refine congrArg Value.bool ?_; simp; omega), hb3⟩
        case round =>
          clear hb3 hmm hmn
          obtain ⟨m, hm, rfl, rfl, hbl⟩ := hrel
          obtain ⟨hcell, _⟩ := bcell hbl
          have hszr : w.heap.size + 1 ≤ wr.heap.size := by have := hbl.size; simp at this; omega
          by_cases hml : m < t.wishes.length
          · obtain ⟨b, off, rfl, hb, k0, k1⟩ := h.wishes.wish hml
            have hb1 : b < w.heap.size + 1 := by omega
            have hend : ∀ o, Below (w.heap.size + 1) (w.alloc (.cells #[.int .i64 t.cloth.threads, .slice cA t.cloth.crosses.length cc, .slice pA t.cloth.pins.length pc, .slice (some ⟨b, off, none⟩) t.wishes.length wc, .slice uA t.unlike.length uc,
          .int .i64 t.s0, .int .i64 t.s1, .int .i64 t.s2, .int .i64 t.s3, .int .i64 t.s4, .int .i64 t.s5] 41)) (wr.alloc o) := fun o => hbl.alloc hszr o
            have HEND := Lib.hid hend
            clear hend
            have hck : ∀ o, (wr.alloc o).cell? ⟨w.heap.size, 1, none⟩ = some (.slice cA t.cloth.crosses.length cc) := fun o => (HEND.out o).cell (p := ⟨w.heap.size, 1, none⟩) (by simp)|>.trans (by simp)
            have HCK := Lib.hid hck
            clear hck
            have HS := Lib.hid (all_take_succ (f := wishOk t.cloth.crosses.length) hml)
            have hal2 := (h.wf.wishes _ (List.getElem_mem hml)).2
            have HW : Hid (wishOk t.cloth.crosses.length t.wishes[m] = (isB t.cloth.crosses.length t.wishes[m].cross && decide (t.wishes[m].allowed < 64))) := rfl
            generalize t.wishes[m].cross = cr at *
            generalize t.wishes[m].allowed = al at *
            cases hg : (t.wishes.take m).all (wishOk t.cloth.crosses.length) with
            | false =>
              have HG := Lib.hid hg
              clear hg
              go_wp2
              go_roundw
              case rel => exact ⟨m + 1, by omega, by go_num, by rw [HS.out, HG.out]; rfl, HEND.out _⟩
              case measure => simp [intOf]; omega
            | true =>
              have HG := Lib.hid hg
              clear hg
              cases hi : isB t.cloth.crosses.length cr with
              | false =>
                have HI := Lib.hid hi
                clear hi
                go_wp2_with (go_at_call 24; refine (ck1_any w.heap.size cA t.cloth.crosses.length cc _ (HCK.out _)).mono ?_; rintro e w4 ⟨rfl, rfl⟩; rw [HI.out])
                go_roundw
                case rel => exact ⟨m + 1, by omega, by go_num, by rw [HS.out, HG.out, HW.out, HI.out]; rfl, HEND.out _⟩
                case measure => simp [intOf]; omega
              | true =>
                have HI := Lib.hid hi
                clear hi
                go_wp2_with (go_at_call 24; refine (ck1_any w.heap.size cA t.cloth.crosses.length cc _ (HCK.out _)).mono ?_; rintro e w4 ⟨rfl, rfl⟩; rw [HI.out])
                go_roundw
                case rel => exact ⟨m + 1, by omega, by go_num, by rw [HS.out, HG.out, HW.out, HI.out]; refine congrArg Value.bool ?_; rw [Bool.eq_iff_iff]; simp; omega, HEND.out _⟩
                case measure => simp [intOf]; omega
          · obtain rfl : m = t.wishes.length := by omega
            clear hml hm
            rw [List.take_length]
            generalize hg1 : t.wishes.all (wishOk t.cloth.crosses.length) = g1
            have HG1 := Lib.hid hg1
            clear hg1
            go_wp2
            obtain ⟨wo, rfl⟩ : ∃ wo : World, wo = wr := ⟨_, rfl⟩
            clear hcell
            go_loopw [5, 65] (fun g i wr => ∃ m : Nat, m ≤ t.unlike.length ∧ i = .int .i64 m ∧ g = .bool (g1 && (t.unlike.take m).all (pairOk t.cloth.crosses.length)) ∧ Below (w.heap.size + 1) (w.alloc (.cells #[.int .i64 t.cloth.threads, .slice cA t.cloth.crosses.length cc, .slice pA t.cloth.pins.length pc, .slice wA t.wishes.length wc, .slice uA t.unlike.length uc,
          .int .i64 t.s0, .int .i64 t.s1, .int .i64 t.s2, .int .i64 t.s3, .int .i64 t.s4, .int .i64 t.s5] 41)) wr) (fun _ i _ => t.unlike.length - (intOf i).toNat)
            case atStart => exact ⟨0, by omega, rfl, by simp, hbl⟩
            case round =>
              clear hbl hszr
              obtain ⟨m, hm, rfl, rfl, hbl⟩ := hrel
              obtain ⟨hcell, _⟩ := bcell hbl
              have hszr : w.heap.size + 1 ≤ wr.heap.size := by have := hbl.size; simp at this; omega
              by_cases hml : m < t.unlike.length
              · obtain ⟨b, off, rfl, hb, k0, k1⟩ := h.unlike.pair hml
                have hb1 : b < w.heap.size + 1 := by omega
                have hend : ∀ o, Below (w.heap.size + 1) (w.alloc (.cells #[.int .i64 t.cloth.threads, .slice cA t.cloth.crosses.length cc, .slice pA t.cloth.pins.length pc, .slice wA t.wishes.length wc, .slice (some ⟨b, off, none⟩) t.unlike.length uc,
          .int .i64 t.s0, .int .i64 t.s1, .int .i64 t.s2, .int .i64 t.s3, .int .i64 t.s4, .int .i64 t.s5] 41)) (wr.alloc o) := fun o => hbl.alloc hszr o
                have HEND := Lib.hid hend
                clear hend
                have hck : ∀ o, (wr.alloc o).cell? ⟨w.heap.size, 1, none⟩ = some (.slice cA t.cloth.crosses.length cc) := fun o => (HEND.out o).cell (p := ⟨w.heap.size, 1, none⟩) (by simp)|>.trans (by simp)
                have HCK := Lib.hid hck
                clear hck
                have HS := Lib.hid (all_take_succ (f := pairOk t.cloth.crosses.length) hml)
                have HW : Hid (pairOk t.cloth.crosses.length t.unlike[m] = (isB t.cloth.crosses.length t.unlike[m].1 && isB t.cloth.crosses.length t.unlike[m].2 && !decide (t.unlike[m].1 = t.unlike[m].2))) := rfl
                generalize t.unlike[m].1 = ua at *
                generalize t.unlike[m].2 = ub at *
                cases hg : (g1 && (t.unlike.take m).all (pairOk t.cloth.crosses.length)) with
                | false =>
                  have HG := Lib.hid hg
                  clear hg
                  go_wp2
                  go_roundw
                  case rel => exact ⟨m + 1, by omega, by go_num, by rw [HS.out, ← Bool.and_assoc, HG.out]; rfl, HEND.out _⟩
                  case measure => simp [intOf]; omega
                | true =>
                  have HG := Lib.hid hg
                  clear hg
                  cases hi : isB t.cloth.crosses.length ua with
                  | false =>
                    have HI := Lib.hid hi
                    clear hi
                    go_wp2_with (go_at_call 24; refine (ck1_any w.heap.size cA t.cloth.crosses.length cc _ (HCK.out _)).mono ?_; rintro e w4 ⟨rfl, rfl⟩; rw [HI.out])
                    go_roundw
                    case rel => exact ⟨m + 1, by omega, by go_num, by rw [HS.out, ← Bool.and_assoc, HG.out, HW.out, HI.out]; rfl, HEND.out _⟩
                    case measure => simp [intOf]; omega
                  | true =>
                    have HI := Lib.hid hi
                    clear hi
                    cases hi2 : isB t.cloth.crosses.length ub with
                    | false =>
                      have HI2 := Lib.hid hi2
                      clear hi2
                      go_wp2_with (go_at_call 24; refine (ck1_any w.heap.size cA t.cloth.crosses.length cc _ (HCK.out _)).mono ?_; rintro e w4 ⟨rfl, rfl⟩; first | rw [HI.out] | rw [HI2.out])
                      go_roundw
                      case rel => exact ⟨m + 1, by omega, by go_num, by rw [HS.out, ← Bool.and_assoc, HG.out, HW.out, HI.out, HI2.out]; rfl, HEND.out _⟩
                      case measure => simp [intOf]; omega
                    | true =>
                      have HI2 := Lib.hid hi2
                      clear hi2
                      go_wp2_with (go_at_call 24; refine (ck1_any w.heap.size cA t.cloth.crosses.length cc _ (HCK.out _)).mono ?_; rintro e w4 ⟨rfl, rfl⟩; first | rw [HI.out] | rw [HI2.out])
                      go_roundw
                      case rel => exact ⟨m + 1, by omega, by go_num, by rw [HS.out, ← Bool.and_assoc, HG.out, HW.out, HI.out, HI2.out]; refine congrArg Value.bool ?_; rw [Bool.eq_iff_iff]; simp, HEND.out _⟩
                      case measure => simp [intOf]; omega
              · obtain rfl : m = t.unlike.length := by omega
                rw [List.take_length]
                cases hg : (g1 && t.unlike.all (pairOk t.cloth.crosses.length)) with
                | false =>
                  have HG := Lib.hid hg
                  clear hg
                  go_wp2
                  go_ret
                  exact ⟨by rw [HSB.out, HG1.out, HG.out]; rfl, (below_box _).trans (hbl.mono (by omega))⟩
                | true =>
                  have HG := Lib.hid hg
                  clear hg
                  go_wp2
                  go_ret
                  exact ⟨by rw [HSB.out, HG1.out, HG.out, HSUP.out]; rfl, (below_box _).trans (hbl.mono (by omega))⟩
      · have hno : Hid (goodB t = false) := by
          unfold Hid
          rw [HSB.out, show supplyOk t = false from (Bool.eq_false_iff.2 fun hs => hmm (supply_all.1 hs _ m3).2), Bool.and_false]
        clear m1 m2 m3 m4
        go_wp2_with fail
        go_loopw [5, 44] (fun g i wr => ∃ m : Nat, m ≤ t.wishes.length ∧ i = .int .i64 m ∧ g = .bool false ∧ Below (w.heap.size + 1) (w.alloc (.cells #[.int .i64 t.cloth.threads, .slice cA t.cloth.crosses.length cc, .slice pA t.cloth.pins.length pc, .slice wA t.wishes.length wc, .slice uA t.unlike.length uc,
          .int .i64 t.s0, .int .i64 t.s1, .int .i64 t.s2, .int .i64 t.s3, .int .i64 t.s4, .int .i64 t.s5] 41)) wr) (fun _ i _ => t.wishes.length - (intOf i).toNat)
        case atStart => exact ⟨0, by omega, rfl, by first | rfl | (refine congrArg Value.bool ?_; simp; done) | (refine congrArg Value.bool ?_; simp; omega), hb3⟩
        case round =>
          clear hb3
          (try clear hmm); (try clear hmn)
          obtain ⟨m, hm, rfl, rfl, hbl⟩ := hrel
          obtain ⟨hcell, _⟩ := bcell hbl
          have hszr : w.heap.size + 1 ≤ wr.heap.size := by have := hbl.size; simp at this; omega
          by_cases hml : m < t.wishes.length
          · obtain ⟨b, off, rfl, hb, k0, k1⟩ := h.wishes.wish hml
            have hb1 : b < w.heap.size + 1 := by omega
            have hend : ∀ o, Below (w.heap.size + 1) (w.alloc (.cells #[.int .i64 t.cloth.threads, .slice cA t.cloth.crosses.length cc, .slice pA t.cloth.pins.length pc, .slice (some ⟨b, off, none⟩) t.wishes.length wc, .slice uA t.unlike.length uc,
          .int .i64 t.s0, .int .i64 t.s1, .int .i64 t.s2, .int .i64 t.s3, .int .i64 t.s4, .int .i64 t.s5] 41)) (wr.alloc o) := fun o => hbl.alloc hszr o
            have HEND := Lib.hid hend
            clear hend
            go_wp2
            go_roundw
            case rel => exact ⟨m + 1, by omega, by go_num, rfl, HEND.out _⟩
            case measure => simp [intOf]; omega
          · obtain rfl : m = t.wishes.length := by omega
            clear hml hm
            go_wp2
            obtain ⟨wo, rfl⟩ : ∃ wo : World, wo = wr := ⟨_, rfl⟩
            clear hcell
            go_loopw [5, 65] (fun g i wr => ∃ m : Nat, m ≤ t.unlike.length ∧ i = .int .i64 m ∧ g = .bool false ∧ Below (w.heap.size + 1) (w.alloc (.cells #[.int .i64 t.cloth.threads, .slice cA t.cloth.crosses.length cc, .slice pA t.cloth.pins.length pc, .slice wA t.wishes.length wc, .slice uA t.unlike.length uc,
          .int .i64 t.s0, .int .i64 t.s1, .int .i64 t.s2, .int .i64 t.s3, .int .i64 t.s4, .int .i64 t.s5] 41)) wr) (fun _ i _ => t.unlike.length - (intOf i).toNat)
            case atStart => exact ⟨0, by omega, rfl, rfl, hbl⟩
            case round =>
              clear hbl hszr
              obtain ⟨m, hm, rfl, rfl, hbl⟩ := hrel
              obtain ⟨hcell, _⟩ := bcell hbl
              have hszr : w.heap.size + 1 ≤ wr.heap.size := by have := hbl.size; simp at this; omega
              by_cases hml : m < t.unlike.length
              · obtain ⟨b, off, rfl, hb, k0, k1⟩ := h.unlike.pair hml
                have hb1 : b < w.heap.size + 1 := by omega
                have hend : ∀ o, Below (w.heap.size + 1) (w.alloc (.cells #[.int .i64 t.cloth.threads, .slice cA t.cloth.crosses.length cc, .slice pA t.cloth.pins.length pc, .slice wA t.wishes.length wc, .slice (some ⟨b, off, none⟩) t.unlike.length uc,
          .int .i64 t.s0, .int .i64 t.s1, .int .i64 t.s2, .int .i64 t.s3, .int .i64 t.s4, .int .i64 t.s5] 41)) (wr.alloc o) := fun o => hbl.alloc hszr o
                have HEND := Lib.hid hend
                clear hend
                go_wp2
                go_roundw
                case rel => exact ⟨m + 1, by omega, by go_num, rfl, HEND.out _⟩
                case measure => simp [intOf]; omega
              · obtain rfl : m = t.unlike.length := by omega
                go_wp2
                go_ret
                exact ⟨by rw [hno.out]; rfl, (below_box _).trans (hbl.mono (by omega))⟩
    · have hno : Hid (goodB t = false) := by
        unfold Hid
        rw [HSB.out, show supplyOk t = false from (Bool.eq_false_iff.2 fun hs => hmn (supply_all.1 hs _ m1).1), Bool.and_false]
      clear m1 m2
      obtain ⟨w3, rfl⟩ : ∃ w3 : World, w3 = w2 := ⟨_, rfl⟩
      have hb3 := hb2
      clear hb2
      go_wp2_with fail
      go_loopw [5, 44] (fun g i wr => ∃ m : Nat, m ≤ t.wishes.length ∧ i = .int .i64 m ∧ g = .bool false ∧ Below (w.heap.size + 1) (w.alloc (.cells #[.int .i64 t.cloth.threads, .slice cA t.cloth.crosses.length cc, .slice pA t.cloth.pins.length pc, .slice wA t.wishes.length wc, .slice uA t.unlike.length uc,
        .int .i64 t.s0, .int .i64 t.s1, .int .i64 t.s2, .int .i64 t.s3, .int .i64 t.s4, .int .i64 t.s5] 41)) wr) (fun _ i _ => t.wishes.length - (intOf i).toNat)
      case atStart => exact ⟨0, by omega, rfl, by first | rfl | (refine congrArg Value.bool ?_; simp; done) | (refine congrArg Value.bool ?_; simp; omega), hb3⟩
      case round =>
        clear hb3
        (try clear hmm); (try clear hmn)
        obtain ⟨m, hm, rfl, rfl, hbl⟩ := hrel
        obtain ⟨hcell, _⟩ := bcell hbl
        have hszr : w.heap.size + 1 ≤ wr.heap.size := by have := hbl.size; simp at this; omega
        by_cases hml : m < t.wishes.length
        · obtain ⟨b, off, rfl, hb, k0, k1⟩ := h.wishes.wish hml
          have hb1 : b < w.heap.size + 1 := by omega
          have hend : ∀ o, Below (w.heap.size + 1) (w.alloc (.cells #[.int .i64 t.cloth.threads, .slice cA t.cloth.crosses.length cc, .slice pA t.cloth.pins.length pc, .slice (some ⟨b, off, none⟩) t.wishes.length wc, .slice uA t.unlike.length uc,
        .int .i64 t.s0, .int .i64 t.s1, .int .i64 t.s2, .int .i64 t.s3, .int .i64 t.s4, .int .i64 t.s5] 41)) (wr.alloc o) := fun o => hbl.alloc hszr o
          have HEND := Lib.hid hend
          clear hend
          go_wp2
          go_roundw
          case rel => exact ⟨m + 1, by omega, by go_num, rfl, HEND.out _⟩
          case measure => simp [intOf]; omega
        · obtain rfl : m = t.wishes.length := by omega
          clear hml hm
          go_wp2
          obtain ⟨wo, rfl⟩ : ∃ wo : World, wo = wr := ⟨_, rfl⟩
          clear hcell
          go_loopw [5, 65] (fun g i wr => ∃ m : Nat, m ≤ t.unlike.length ∧ i = .int .i64 m ∧ g = .bool false ∧ Below (w.heap.size + 1) (w.alloc (.cells #[.int .i64 t.cloth.threads, .slice cA t.cloth.crosses.length cc, .slice pA t.cloth.pins.length pc, .slice wA t.wishes.length wc, .slice uA t.unlike.length uc,
        .int .i64 t.s0, .int .i64 t.s1, .int .i64 t.s2, .int .i64 t.s3, .int .i64 t.s4, .int .i64 t.s5] 41)) wr) (fun _ i _ => t.unlike.length - (intOf i).toNat)
          case atStart => exact ⟨0, by omega, rfl, rfl, hbl⟩
          case round =>
            clear hbl hszr
            obtain ⟨m, hm, rfl, rfl, hbl⟩ := hrel
            obtain ⟨hcell, _⟩ := bcell hbl
            have hszr : w.heap.size + 1 ≤ wr.heap.size := by have := hbl.size; simp at this; omega
            by_cases hml : m < t.unlike.length
            · obtain ⟨b, off, rfl, hb, k0, k1⟩ := h.unlike.pair hml
              have hb1 : b < w.heap.size + 1 := by omega
              have hend : ∀ o, Below (w.heap.size + 1) (w.alloc (.cells #[.int .i64 t.cloth.threads, .slice cA t.cloth.crosses.length cc, .slice pA t.cloth.pins.length pc, .slice wA t.wishes.length wc, .slice (some ⟨b, off, none⟩) t.unlike.length uc,
        .int .i64 t.s0, .int .i64 t.s1, .int .i64 t.s2, .int .i64 t.s3, .int .i64 t.s4, .int .i64 t.s5] 41)) (wr.alloc o) := fun o => hbl.alloc hszr o
              have HEND := Lib.hid hend
              clear hend
              go_wp2
              go_roundw
              case rel => exact ⟨m + 1, by omega, by go_num, rfl, HEND.out _⟩
              case measure => simp [intOf]; omega
            · obtain rfl : m = t.unlike.length := by omega
              go_wp2
              go_ret
              exact ⟨by rw [hno.out]; rfl, (below_box _).trans (hbl.mono (by omega))⟩
end Go.Proofs.Ytegbbkmppphddaa
