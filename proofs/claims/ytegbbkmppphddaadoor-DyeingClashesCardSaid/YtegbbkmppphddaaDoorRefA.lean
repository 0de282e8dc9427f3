/- Of one text with its neighbours: RefCloth, RefEnds, RefCheck, Pure2, RefSolve, RefSolve2. -/
import Derived.Test.YtegbbkmppphddaaDoorBase
import Derived.Lib.Hide
import Derived.Deep.LoopGhost
import Derived.OwnWalk
set_option linter.unusedVariables false
set_option linter.unusedSimpArgs false
/- The reference's checks of a cloth: line, numbers, ends, Check. -/
namespace Go.Proofs.YtegbbkmppphddaaDoor
open Go.RowKit

theorem info_int : (Tryd.prog.info? 3).map (fun i => (i.zero, i.size, i.bytes)) = some (some (.int .i64 0), 1, 8) := by kernel_rfl

def LinePost (w : World) (n : Nat) (e : Ending) (w' : World) : Prop :=
  ∃ A c, e = .returned (.slice A n c) ∧ w'.ownsRow w.heap.size 3 1 (.slice A n c) n (ints (iota n)) ∧ Below w.heap.size w w'

set_option maxHeartbeats 400000 in
theorem line_any (w : World) (n : Nat) (hn : n ≤ 48) : Calls Tryd.prog 59 #[.int .i64 n] w (LinePost w n) := by
  obtain ⟨i0, hi0, hz0, hz1, hz2⟩ := info_parts info_int
  go_enter Tryd.func59, Tryd.ntmps59
  go_wp2
  go_loopw [3, 4] (fun v i wr => ∃ (k : Nat) (A : Option Addr) (c : Nat), k ≤ n ∧ i = .int .i64 k ∧ v = .slice A k c ∧ wr.ownsRow w.heap.size 3 1 (.slice A k c) (iota k).length (ints (iota k)) ∧ Below w.heap.size w wr) (fun _ i _ => n - (intOf i).toNat)
  case atStart => exact ⟨0, none, 0, by omega, rfl, rfl, World.ownsRow_nil _ _ _ _, Below.refl _ _⟩
  case round =>
    obtain ⟨k, A, c, hk, rfl, rfl, hown, hb⟩ := hrel
    by_cases hlt : k < n
    · have hkw := Lib.hid (show I64 (k : Int) by unfold I64; omega)
      have hsz := hb.size
      go_wp2_with (at_builtin; refine wpList_append_ints rfl (.tmp 10) (.tmp 12) 33 3 i0 rfl Tryd.underlying33 hi0 hz0 hz1 hz2 w.heap.size (.slice A k c) (iota k) rfl (hown.alloc _) _ 1 [(k : Int)] rfl (one_int _ hkw.out (by simp) (by simp)) (iota_wf k (by omega)) (by simp [iota_length]; omega) (by simp; omega) ?_; intro A' c' w1 hown' hgrow hge hat hI)
      rw [← iota_succ] at hown'
      rw [iota_length] at hown'
      have hb1 := ((hb.alloc hsz (.cells #[.int .i64 k] 3)).grown hgrow (by simp; omega) hge)
      clear hgrow hat hge hI hown
      go_wp2
      go_roundw
      case rel => exact ⟨k + 1, A', c', by omega, by go_num, by simp [iota_length], by rw [iota_length]; exact hown', hb1⟩
      case measure => simp [intOf]; omega
    · obtain rfl : k = n := by omega
      rw [iota_length] at hown
      go_wp2
      go_ret
      exact ⟨A, c, rfl, hown, hb⟩

set_option maxRecDepth 100000 in
set_option maxHeartbeats 2000000 in
theorem numbers_any {w : World} {cA : Option Addr} {cc : Nat} {pA : Option Addr} {pc : Nat} {c : Cloth} (h : ClothRd w cA cc pA pc c) :
    Calls Tryd.prog 51 #[clothVal cA cc pA pc c] w fun e w' => e = .returned (.bool (numbersB c)) ∧ Below w.heap.size w w' := by
  have hcl := h.clen
  have hcm := h.ccap
  have hpl := h.plen
  have hpm := h.pcap
  unfold maxLen at hcm hpm
  have hth := h.wf.threads
  unfold I64 at hth
  by_cases h2 : 2 ≤ c.threads
  · go_enter Tryd.func51, Tryd.ntmps51
    go_wp2
    go_loopw [3] (fun i wr => ∃ m : Nat, m ≤ c.crosses.length ∧ i = .int .i64 m ∧ Below (w.heap.size + 1) (w.alloc (.cells #[.int .i64 c.threads, .slice cA c.crosses.length cc, .slice pA c.pins.length pc] 25)) wr ∧ ∀ j (hj : j < c.crosses.length), j < m → crossOk c.threads c.crosses[j] = true) (fun i _ => c.crosses.length - (intOf i).toNat)
    case atStart => exact ⟨0, by omega, rfl, Below.refl _ _, fun j _ hj => by omega⟩
    case round =>
      obtain ⟨m, hm, rfl, hbl, hall⟩ := hrel
      obtain ⟨hcell, _⟩ := bcell hbl
      have hszr : w.heap.size + 1 ≤ wr.heap.size := by have := hbl.size; simp at this; omega
      have HALL := Lib.hid hall
      clear hall
      by_cases hml : m < c.crosses.length
      · obtain ⟨b, off, rfl, hb, k0, k1, k2, k3⟩ := h.crosses.cross hml
        have hb1 : b < w.heap.size + 1 := by omega
        have hxr : w.heap.size < wr.heap.size := by omega
        have hwf := h.wf.crosses _ (List.getElem_mem hml)
        unfold Cross.wf I64 at hwf
        have HX : Hid (crossOk c.threads c.crosses[m] = (decide (0 ≤ c.crosses[m].at_) && decide (c.crosses[m].at_ ≤ c.threads - 2) && decide (0 ≤ c.crosses[m].work))) := rfl
        have hno := numbers_cross_no (c := c) hml
        have HNO := Lib.hid hno
        clear hno
        generalize c.crosses[m].at_ = at_ at *
        generalize c.crosses[m].work = wk at *
        have hend : ∀ o, Below (w.heap.size + 1) (w.alloc (.cells #[.int .i64 c.threads, .slice (some ⟨b, off, none⟩) c.crosses.length cc, .slice pA c.pins.length pc] 25)) (wr.alloc o) := fun o => hbl.alloc hszr o
        have HEND := Lib.hid hend
        clear hend
        by_cases c1 : at_ < 0
        · have hf := HNO.out (by rw [HX.out]; simp; omega)
          clear HX HNO
          go_wp2
          go_ret
          exact ⟨by first | rfl | (rw [hf]; rfl), (below_box _).trans ((HEND.out _).mono (by omega))⟩
        by_cases c2 : c.threads - 2 < at_
        · have hf := HNO.out (by rw [HX.out]; simp; omega)
          clear HX HNO
          go_wp2
          go_ret
          exact ⟨by first | rfl | (rw [hf]; rfl), (below_box _).trans ((HEND.out _).mono (by omega))⟩
        by_cases c3 : wk < 0
        · have hf := HNO.out (by rw [HX.out]; simp; omega)
          clear HX HNO
          go_wp2
          go_ret
          exact ⟨by first | rfl | (rw [hf]; rfl), (below_box _).trans ((HEND.out _).mono (by omega))⟩
        clear HNO
        go_wp2
        go_roundw
        case rel => exact ⟨m + 1, by omega, by go_num, HEND.out _, fun j hj hjm => by
          by_cases e : j = m
          · subst e; rw [HX.out]; simp; omega
          · exact HALL.out j hj (by omega)⟩
        case measure => simp [intOf]; omega
      · obtain rfl : m = c.crosses.length := by omega
        have HC := Lib.hid (all_yes (f := crossOk c.threads) (l := c.crosses) fun j hj => HALL.out j hj hj)
        clear HALL hml hm
        go_wp2
        obtain ⟨wo, rfl⟩ : ∃ wo : World, wo = wr := ⟨_, rfl⟩
        clear hcell
        go_loopw [5] (fun i wr => ∃ m : Nat, m ≤ c.pins.length ∧ i = .int .i64 m ∧ Below (w.heap.size + 1) (w.alloc (.cells #[.int .i64 c.threads, .slice cA c.crosses.length cc, .slice pA c.pins.length pc] 25)) wr ∧ ∀ j (hj : j < c.pins.length), j < m → pinOk c.threads c.pins[j] = true) (fun i _ => c.pins.length - (intOf i).toNat)
        case atStart => exact ⟨0, by omega, rfl, hbl, fun j _ hj => by omega⟩
        case round =>
          clear hbl hszr
          obtain ⟨m, hm, rfl, hbl, hall⟩ := hrel
          obtain ⟨hcell, _⟩ := bcell hbl
          have hszr : w.heap.size + 1 ≤ wr.heap.size := by have := hbl.size; simp at this; omega
          have HALL := Lib.hid hall
          clear hall
          by_cases hml : m < c.pins.length
          · obtain ⟨b, off, rfl, hb, k0, k1, k2, k3⟩ := h.pins.pin hml
            have hb1 : b < w.heap.size + 1 := by omega
            have hxr : w.heap.size < wr.heap.size := by omega
            have hwf := h.wf.pins _ (List.getElem_mem hml)
            unfold Pin.wf I64 at hwf
            have HX : Hid (pinOk c.threads c.pins[m] = (decide (0 ≤ c.pins[m].at_) && decide (c.pins[m].at_ ≤ c.threads - 2) && decide (0 ≤ c.pins[m].work) && (decide (0 ≤ c.pins[m].left) && decide (c.pins[m].left ≤ c.threads - 1)) && (decide (0 ≤ c.pins[m].right) && decide (c.pins[m].right ≤ c.threads - 1)) && !decide (c.pins[m].left = c.pins[m].right))) := rfl
            have hno := numbers_pin_no (c := c) hml
            have HNO := Lib.hid hno
            clear hno
            generalize c.pins[m].at_ = at_ at *
            generalize c.pins[m].work = wk at *
            generalize c.pins[m].left = lf at *
            generalize c.pins[m].right = rt at *
            have hend : ∀ o, Below (w.heap.size + 1) (w.alloc (.cells #[.int .i64 c.threads, .slice cA c.crosses.length cc, .slice (some ⟨b, off, none⟩) c.pins.length pc] 25)) (wr.alloc o) := fun o => hbl.alloc hszr o
            have HEND := Lib.hid hend
            clear hend
            by_cases c1 : at_ < 0
            · have hf := HNO.out (by rw [HX.out]; simp; omega)
              clear HX HNO
              go_wp2
              go_ret
              exact ⟨by first | rfl | (rw [hf]; rfl), (below_box _).trans ((HEND.out _).mono (by omega))⟩
            by_cases c2 : c.threads - 2 < at_
            · have hf := HNO.out (by rw [HX.out]; simp; omega)
              clear HX HNO
              go_wp2
              go_ret
              exact ⟨by first | rfl | (rw [hf]; rfl), (below_box _).trans ((HEND.out _).mono (by omega))⟩
            by_cases c3 : wk < 0
            · have hf := HNO.out (by rw [HX.out]; simp; omega)
              clear HX HNO
              go_wp2
              go_ret
              exact ⟨by first | rfl | (rw [hf]; rfl), (below_box _).trans ((HEND.out _).mono (by omega))⟩
            by_cases c4 : lf < 0
            · have hf := HNO.out (by rw [HX.out]; simp; omega)
              clear HX HNO
              go_wp2
              go_ret
              exact ⟨by first | rfl | (rw [hf]; rfl), (below_box _).trans ((HEND.out _).mono (by omega))⟩
            by_cases c5 : c.threads ≤ lf
            · have hf := HNO.out (by rw [HX.out]; simp; omega)
              clear HX HNO
              go_wp2
              go_ret
              exact ⟨by first | rfl | (rw [hf]; rfl), (below_box _).trans ((HEND.out _).mono (by omega))⟩
            by_cases c6 : rt < 0
            · have hf := HNO.out (by rw [HX.out]; simp; omega)
              clear HX HNO
              go_wp2
              go_ret
              exact ⟨by first | rfl | (rw [hf]; rfl), (below_box _).trans ((HEND.out _).mono (by omega))⟩
            by_cases c7 : c.threads ≤ rt
            · have hf := HNO.out (by rw [HX.out]; simp; omega)
              clear HX HNO
              go_wp2
              go_ret
              exact ⟨by first | rfl | (rw [hf]; rfl), (below_box _).trans ((HEND.out _).mono (by omega))⟩
            by_cases c8 : lf = rt
            · have hf := HNO.out (by rw [HX.out]; simp [c8])
              have hq : (lf == rt) = true := by simp [c8]
              clear HX HNO c8
              go_wp2
              go_ret
              exact ⟨by first | rfl | (rw [hf]; rfl), (below_box _).trans ((HEND.out _).mono (by omega))⟩
            have hq : (lf == rt) = false := by simp [c8]
            have C8 := Lib.hid c8
            clear HNO c8
            go_wp2
            go_roundw
            case rel => exact ⟨m + 1, by omega, by go_num, HEND.out _, fun j hj hjm => by
              by_cases e : j = m
              · subst e; rw [HX.out]; simp [C8.out]; omega
              · exact HALL.out j hj (by omega)⟩
            case measure => simp [intOf]; omega
          · obtain rfl : m = c.pins.length := by omega
            have hyes : numbersB c = true := by
              unfold numbersB
              rw [HC.out, all_yes (f := pinOk c.threads) (l := c.pins) fun j hj => HALL.out j hj hj]
              simp; omega
            have HY := Lib.hid hyes
            clear hyes
            go_wp2
            go_ret
            exact ⟨by rw [HY.out]; rfl, (below_box _).trans (hbl.mono (by omega))⟩
  · have hno : numbersB c = false := by simp [numbersB, h2]
    have h2' : c.threads < 2 := by omega
    clear h2
    go_enter Tryd.func51, Tryd.ntmps51
    go_wp2
    go_ret
    exact ⟨by first | rfl | (rw [hno]; rfl), below_box _⟩
end Go.Proofs.YtegbbkmppphddaaDoor
/- The reference's 'ends' and 'Check' of a cloth. -/
namespace Go.Proofs.YtegbbkmppphddaaDoor
open Go.RowKit

def EndsPost (w : World) (c : Cloth) (e : Ending) (w' : World) : Prop :=
  ∃ v, e = .returned (.tuple #[v, .bool (endsB (iota c.threads.toNat) c.crosses).isSome]) ∧ Below w.heap.size w w'

theorem numbers_cross {c : Cloth} (h : numbersB c = true) {k : Nat} (hk : k < c.crosses.length) : 0 ≤ c.crosses[k].at_ ∧ c.crosses[k].at_ ≤ c.threads - 2 ∧ 0 ≤ c.crosses[k].work := by
  unfold numbersB at h
  simp only [Bool.and_eq_true, List.all_eq_true] at h
  have := h.1.2 _ (List.getElem_mem hk)
  simpa [crossOk, and_assoc] using this

set_option maxRecDepth 100000 in
set_option maxHeartbeats 2000000 in
theorem ends_any {w : World} {cA : Option Addr} {cc : Nat} {pA : Option Addr} {pc : Nat} {c : Cloth} (h : ClothRd w cA cc pA pc c) (hn : numbersB c = true) (h48 : c.threads ≤ 48) :
    Calls Tryd.prog 52 #[clothVal cA cc pA pc c] w (EndsPost w c) := by
  have h2 : 2 ≤ c.threads := by
    unfold numbersB at hn
    simp only [Bool.and_eq_true, decide_eq_true_eq] at hn
    omega
  obtain ⟨n, hth⟩ := Int.eq_ofNat_of_zero_le (show 0 ≤ c.threads by omega)
  have hcl := h.clen
  have hcm := h.ccap
  unfold maxLen at hcm
  have HT := Lib.hid (show c.threads.toNat = n by omega)
  have HN := Lib.hid hn
  clear hn
  have hth' : c.threads = n := hth
  clear hth
  have hn2 : 2 ≤ n := by omega
  have hn48 : n ≤ 48 := by omega
  unfold clothVal
  rw [hth']
  have HTH := Lib.hid hth'
  clear hth' h2 h48
  have hB1 := below_box (w := w) (.cells #[.int .i64 n, .slice cA c.crosses.length cc, .slice pA c.pins.length pc] 25)
  go_enter Tryd.func52, Tryd.ntmps52
  go_wp2_with fail
  refine (line_any _ n hn48).mono ?_
  rintro e w1 ⟨A, cap, rfl, hown, hb1⟩
  obtain ⟨g, cap, hA, hg, hgs⟩ := hown.form (by omega)
  obtain ⟨rfl, -, rfl⟩ := Value.slice.inj hA
  simp only [World.size_alloc] at hg hb1 hown
  obtain ⟨hcell, _⟩ := bcell hb1
  go_wp2_with fail
  clear hcell
  go_loopw [5] (fun i wr => ∃ (m : Nat) (L : List Int), m ≤ c.crosses.length ∧ i = .int .i64 m ∧ L.length = n ∧ endsB (iota n) c.crosses = endsB L (c.crosses.drop m) ∧ (∀ x ∈ L, I64 x) ∧
    wr.ownsRow (w.heap.size + 1) 3 1 (.slice (some ⟨g, 0, none⟩) n cap) n (ints L) ∧ Below (w.heap.size + 1) (w.alloc (.cells #[.int .i64 n, .slice cA c.crosses.length cc, .slice pA c.pins.length pc] 25)) wr) (fun i _ => c.crosses.length - (intOf i).toNat)
  case atStart => exact ⟨0, iota n, by omega, rfl, iota_length n, by simp, iota_wf n (by omega), hown, hb1⟩
  case round =>
    obtain ⟨m, L, hm, rfl, hLn, hL, hLw, hown, hbl⟩ := hrel
    obtain ⟨hcell, _⟩ := bcell hbl
    have hszr : w.heap.size + 1 ≤ wr.heap.size := by have := hbl.size; simp at this; omega
    by_cases hml : m < c.crosses.length
    · obtain ⟨b, off, rfl, hb, k0, k1, k2, k3⟩ := h.crosses.cross hml
      have hb1' : b < w.heap.size + 1 := by omega
      have hxr : w.heap.size < wr.heap.size := by omega
      obtain ⟨q0, q1, -⟩ := numbers_cross HN.out hml
      rw [HTH.out] at q1
      have hgr : g < wr.heap.size := by
        obtain ⟨g', cap', e, _, h'⟩ := hown.form (by omega)
        obtain ⟨e1, -, -⟩ := Value.slice.inj e
        obtain rfl : g = g' := by simpa using e1
        exact h'
      have HX : Hid (∀ a b, meetB a b c.crosses[m] = ((decide (a = c.crosses[m].over) && decide (b = c.crosses[m].under)) || (decide (b = c.crosses[m].over) && decide (a = c.crosses[m].under)))) := fun _ _ => rfl
      have HD : Hid (c.crosses.drop m = c.crosses[m] :: c.crosses.drop (m + 1)) := List.drop_eq_getElem_cons hml
      have HS : Hid (∀ x r, endsB L (x :: r) = if meetB (L.getD x.at_.toNat 0) (L.getD (x.at_.toNat + 1) 0) x then endsB (swapL L x.at_.toNat) r else none) := fun _ _ => rfl
      obtain ⟨k, hk⟩ := Int.eq_ofNat_of_zero_le q0
      have HK := Lib.hid hk
      rw [hk] at k1 q1
      clear hk q0
      have hkn : k + 1 < n := by omega
      have ha : wr.cell? ⟨g, k, none⟩ = some (.int .i64 (L.getD k 0)) := by
        rw [hown.cellAt k (by omega)]; simp [ints, show k < L.length by omega]
      have hbb : wr.cell? ⟨g, k + 1, none⟩ = some (.int .i64 (L.getD (k + 1) 0)) := by
        rw [hown.cellAt (k + 1) (by omega)]; simp [ints, show k + 1 < L.length by omega]
      have hf1 : wr.frozen? ⟨g, k, none⟩ = false := hown.frozenAt k
      have hf2 : wr.frozen? ⟨g, k + 1, none⟩ = false := hown.frozenAt (k + 1)
      have HO := Lib.hid hown
      have HLL := Lib.hid hL
      have HLN := Lib.hid hLn
      have HLW := Lib.hid hLw
      clear hown hL hLn hLw
      generalize hav : L.getD k 0 = av at *
      generalize hbv : L.getD (k + 1) 0 = bv at *
      have HAV := Lib.hid hav
      have HBV := Lib.hid hbv
      clear hav hbv q1
      generalize c.crosses[m].over = ov at *
      generalize c.crosses[m].under = un at *
      generalize c.crosses[m].work = wk at *
      have HR : Hid (endsB (iota n) c.crosses = if meetB av bv c.crosses[m] then endsB (swapL L k) (c.crosses.drop (m + 1)) else none) := by
        unfold Hid
        rw [HLL.out, HD.out, HS.out, HK.out, Int.toNat_natCast, HAV.out, HBV.out]
      clear HLL HD HS HK
      by_cases hA : av = ov ∧ bv = un
      · obtain ⟨rfl, rfl⟩ := hA
        have HR2 : Hid (endsB (iota n) c.crosses = endsB (swapL L k) (c.crosses.drop (m + 1))) := by
          unfold Hid
          rw [HR.out, HX.out]; simp
        clear HR HX
        go_wp2
        go_quiet (fail)
        go_wp2
        go_region
        go_wp2
        go_roundw
        case rel =>
          refine ⟨m + 1, swapL L k, by omega, by go_num, by rw [swapL_length]; exact HLN.out, HR2.out, swapL_wf HLW.out k, ?_, ?_⟩
          · rw [swapL, HBV.out, HAV.out, ints_set, ints_set]
            exact (((HO.out.alloc _).stored k _).1.stored (k + 1) _).1
          · exact (((below_drewN (hbl.alloc hszr _) _).drew.setCell (p := ⟨g, k, none⟩) (show w.heap.size + 1 ≤ g by omega) _).setCell (p := ⟨g, k + 1, none⟩) (show w.heap.size + 1 ≤ g by omega) _)
        case measure => simp [intOf]; omega
      · by_cases hB : bv = ov ∧ av = un
        · obtain ⟨rfl, rfl⟩ := hB
          have h1 := Lib.hid hA
          have HR2 : Hid (endsB (iota n) c.crosses = endsB (swapL L k) (c.crosses.drop (m + 1))) := by
            unfold Hid
            rw [HR.out, HX.out]; simp
          have hne : (av != bv) = true := by
            rw [bne_iff_ne]; intro e; exact hA ⟨e, e.symm⟩
          clear HR HX hA
          go_wp2
          go_quiet (fail)
          go_wp2
          go_region
          go_wp2
          go_roundw
          case rel =>
            refine ⟨m + 1, swapL L k, by omega, by go_num, by rw [swapL_length]; exact HLN.out, HR2.out, swapL_wf HLW.out k, ?_, ?_⟩
            · rw [swapL, HBV.out, HAV.out, ints_set, ints_set]
              exact (((HO.out.alloc _).stored k _).1.stored (k + 1) _).1
            · exact (((below_drewN (hbl.alloc hszr _) _).drew.setCell (p := ⟨g, k, none⟩) (show w.heap.size + 1 ≤ g by omega) _).setCell (p := ⟨g, k + 1, none⟩) (show w.heap.size + 1 ≤ g by omega) _)
          case measure => simp [intOf]; omega
        · have HR2 : Hid ((endsB (iota n) c.crosses).isSome = false) := by
            unfold Hid
            rw [HR.out, HX.out]; simp; omega
          clear HR HX
          have h1 := Lib.hid hA
          have h2 := Lib.hid hB
          clear hA hB
          go_wp2
          go_quiet (fail)
          go_wp2
          all_goals first
            | exact absurd ⟨by assumption, by assumption⟩ h1.out
            | exact absurd ⟨by assumption, by simpa using ‹(av != un) = false›⟩ h2.out
            | skip
          all_goals
            go_ret2
            refine ⟨.slice none 0 0, ?_, (below_box _).trans ((below_drewN (hbl.alloc hszr _) _).mono (by omega))⟩
            rw [HT.out, HR2.out]
            rfl
    · obtain rfl : m = c.crosses.length := by omega
      have HR2 : Hid ((endsB (iota n) c.crosses).isSome = true) := by
        unfold Hid
        rw [hL]; simp [endsB]
      clear hL
      go_wp2
      go_ret2
      refine ⟨.slice (some ⟨g, 0, none⟩) n cap, ?_, (below_box _).trans (hbl.mono (by omega))⟩
      rw [HT.out, HR2.out]
      rfl

set_option maxHeartbeats 1000000 in
theorem refcloth_any {w : World} {cA : Option Addr} {cc : Nat} {pA : Option Addr} {pc : Nat} {c : Cloth} (h : ClothRd w cA cc pA pc c) :
    Calls Tryd.prog 31 #[clothVal cA cc pA pc c] w fun e w' => e = .returned (.int .i64 (clothB c)) ∧ Below w.heap.size w w' := by
  have hth := h.wf.threads
  unfold I64 at hth
  have hcl := h.clen
  have hcm := h.ccap
  have hpl := h.plen
  have hpm := h.pcap
  unfold maxLen at hcm hpm
  have hB := below_box (w := w) (.cells #[.int .i64 c.threads, .slice cA c.crosses.length cc, .slice pA c.pins.length pc] 25)
  have h1 := h.below hB
  by_cases c1 : 48 < c.threads
  · have hf := Lib.hid (show clothB c = 3 by unfold clothB; rw [if_pos (by omega)])
    go_enter Tryd.func31, Tryd.ntmps31
    go_wp2
    go_ret
    exact ⟨by rw [hf.out]; rfl, hB⟩
  by_cases c2 : 20000 < c.crosses.length
  · have hf := Lib.hid (show clothB c = 3 by unfold clothB; rw [if_pos (by omega)])
    go_enter Tryd.func31, Tryd.ntmps31
    go_wp2
    go_ret
    exact ⟨by rw [hf.out]; rfl, hB⟩
  by_cases c3 : 6400 < c.pins.length
  · have hf := Lib.hid (show clothB c = 3 by unfold clothB; rw [if_pos (by omega)])
    go_enter Tryd.func31, Tryd.ntmps31
    go_wp2
    go_ret
    exact ⟨by rw [hf.out]; rfl, hB⟩
  cases hn : numbersB c with
  | false =>
    have hf := Lib.hid (show clothB c = 2 by unfold clothB; rw [if_neg (by omega), if_pos hn])
    have HN := Lib.hid hn
    clear hn
    go_enter Tryd.func31, Tryd.ntmps31
    go_wp2_with fail
    refine (numbers_any h1).mono ?_
    rintro e w1 ⟨rfl, hb1⟩
    rw [HN.out]
    go_wp2_with fail
    go_ret
    exact ⟨by rw [hf.out]; rfl, hB.trans (hb1.mono (by simp))⟩
  | true =>
    have HN := Lib.hid hn
    clear hn
    go_enter Tryd.func31, Tryd.ntmps31
    go_wp2_with fail
    refine (numbers_any h1).mono ?_
    rintro e w1 ⟨rfl, hb1⟩
    rw [HN.out]
    obtain ⟨hcell, _⟩ := bcell hb1
    go_wp2_with fail
    refine (ends_any (h1.below hb1) HN.out (by omega)).mono ?_
    rintro e w2 ⟨v, rfl, hb2⟩
    have hB2 := (hB.trans (hb1.mono (by simp))).trans (hb2.mono (by have := hb1.size; simp at this; omega))
    cases hq : (endsB (iota c.threads.toNat) c.crosses).isSome with
    | true =>
      have hf := Lib.hid (show clothB c = 0 by unfold clothB; rw [if_neg (by omega), if_neg (by rw [HN.out]; simp), if_pos hq])
      clear hq
      go_wp2_with fail
      go_ret
      exact ⟨by rw [hf.out]; rfl, hB2⟩
    | false =>
      have hf := Lib.hid (show clothB c = 6 by unfold clothB; rw [if_neg (by omega), if_neg (by rw [HN.out]; simp), if_neg (by rw [hq]; simp)])
      clear hq
      go_wp2_with fail
      go_ret
      exact ⟨by rw [hf.out]; rfl, hB2⟩
end Go.Proofs.YtegbbkmppphddaaDoor
/- The reference's 'Check' of a task. -/
namespace Go.Proofs.YtegbbkmppphddaaDoor
open Go.RowKit

def goodE (b : Bool) : Int := if b then 0 else 2

set_option maxRecDepth 100000 in
set_option maxHeartbeats 4000000 in
theorem reftask_good {w : World} {cA : Option Addr} {cc : Nat} {pA : Option Addr} {pc : Nat} {wA : Option Addr} {wc : Nat} {uA : Option Addr} {uc : Nat} {t : Task} (h : TaskRd w cA cc pA pc wA wc uA uc t)
    (h0 : clothB t.cloth = 0) (h1 : t.cloth.threads ≤ 16) (h2 : t.wishes.length ≤ 100) (h3 : t.unlike.length ≤ 100) :
    Calls Tryd.prog 16 #[taskVal cA cc pA pc wA wc uA uc t] w fun e w' => e = .returned (.int .i64 (goodE (goodB t))) ∧ Below w.heap.size w w' := by
  have hT1 := h.below (below_box (.cells #[.int .i64 t.cloth.threads, .slice cA t.cloth.crosses.length cc, .slice pA t.cloth.pins.length pc, .slice wA t.wishes.length wc, .slice uA t.unlike.length uc,
      .int .i64 t.s0, .int .i64 t.s1, .int .i64 t.s2, .int .i64 t.s3, .int .i64 t.s4, .int .i64 t.s5] 30))
  have H0 := Lib.hid h0
  clear h0
  have hcl := h.cloth.clen
  have hcm := h.cloth.ccap
  unfold maxLen at hcm
  go_enter Tryd.func16, Tryd.ntmps16
  go_wp2_with fail
  refine (refcloth_any hT1.cloth).mono ?_
  rintro e w1 ⟨rfl, hb1⟩
  rw [H0.out]
  simp only [World.size_alloc] at hb1
  obtain ⟨hcell, _⟩ := bcell hb1
  go_wp2_with fail
  clear hcell
  go_loopw [4, 5] (fun g i wr => ∃ m : Nat, m ≤ t.wishes.length ∧ i = .int .i64 m ∧ g = .bool ((t.wishes.take m).all (wishOk t.cloth.crosses.length)) ∧ Below (w.heap.size + 1) (w.alloc (.cells #[.int .i64 t.cloth.threads, .slice cA t.cloth.crosses.length cc, .slice pA t.cloth.pins.length pc, .slice wA t.wishes.length wc, .slice uA t.unlike.length uc,
      .int .i64 t.s0, .int .i64 t.s1, .int .i64 t.s2, .int .i64 t.s3, .int .i64 t.s4, .int .i64 t.s5] 30)) wr) (fun _ i _ => t.wishes.length - (intOf i).toNat)
  case atStart => exact ⟨0, by omega, rfl, rfl, hb1⟩
  case round =>
    obtain ⟨m, hm, rfl, rfl, hbl⟩ := hrel
    obtain ⟨hcell, _⟩ := bcell hbl
    have hszr : w.heap.size + 1 ≤ wr.heap.size := by have := hbl.size; simp at this; omega
    by_cases hml : m < t.wishes.length
    · obtain ⟨b, off, rfl, hb, k0, k1⟩ := h.wishes.wish hml
      have hb1 : b < w.heap.size + 1 := by omega
      have hbr : b < wr.heap.size := by omega
      have hxr : w.heap.size < wr.heap.size := by omega
      have HS := Lib.hid (all_take_succ (f := wishOk t.cloth.crosses.length) hml)
      have hal := h.wf.wishes _ (List.getElem_mem hml)
      have hal2 := hal.2
      clear hal
      cases hg : (t.wishes.take m).all (wishOk t.cloth.crosses.length) with
      | false =>
        have HG := Lib.hid hg
        clear hg
        go_wp2
        go_quiet (fail)
        go_wp2
        go_roundw
        case rel => exact ⟨m + 1, by omega, by go_num, by rw [HS.out, HG.out]; rfl, below_drewN hbl _⟩
        case measure => simp [intOf]; omega
      | true =>
        have HG := Lib.hid hg
        clear hg
        cases hi : isB t.cloth.crosses.length t.wishes[m].cross with
        | true =>
          have HI := Lib.hid hi
          clear hi
          have HW : Hid (wishOk t.cloth.crosses.length t.wishes[m] = decide (t.wishes[m].allowed < 64)) := by
            unfold Hid wishOk; rw [HI.out]; rfl
          go_wp2
          go_region_held3 (fun w' => Below wr.heap.size wr w' ∧ (∀ b o, b < wr.heap.size → w'.cell? ⟨b, o, none⟩ = wr.cell? ⟨b, o, none⟩)) (first | exact held_drew _ | assumption)
            (first | (go_at_call 32; refine (is_any t.wishes[m].cross).mono ?_; rintro e w2 ⟨rfl, hq⟩; have hq2 := held_step (wr := wr) (by first | exact held_drew _ | assumption) hq; rw [show decide (0 ≤ t.wishes[m].cross ∧ t.wishes[m].cross < t.cloth.crosses.length) = true from HI.out]))
          have hend := hbl.trans (hq2.1.mono hszr)
          clear hq2 hq hcell
          go_wp2
          go_roundw
          case rel => exact ⟨m + 1, by omega, by go_num, by rw [HS.out, HG.out, HW.out]; simp; omega, hend⟩
          case measure => simp [intOf]; omega
        | false =>
          have HI := Lib.hid hi
          clear hi
          have HW : Hid (wishOk t.cloth.crosses.length t.wishes[m] = false) := by
            unfold Hid wishOk; rw [HI.out]; rfl
          go_wp2
          refine wp_region_noPanic ?_
          refine wp_region_held_drew (S := (fun w' => Below wr.heap.size wr w' ∧ (∀ b o, b < wr.heap.size → w'.cell? ⟨b, o, none⟩ = wr.cell? ⟨b, o, none⟩))) (by kernel_rfl) ?_ (fun hHeld => ?_)
          · exact held_drew _
          refine wpAnyH_take (i := 0) (oi := { dst := some 37, op := Op.move (Operand.tmp 4), type := 4, pos := "ref.go:23", after := #[], guard := none }) (v := ?_) rfl (by kernel_rfl) (by kernel_rfl) (by kernel_rfl) (fun _ _ _ h => h) (.inl ⟨by rfl, ?_⟩) (by assumption) ?_
          rotate_left
          · intro w hSw; (try dsimp only at hSw); go_simp; try (with_reducible rfl)
          try simp only [Act.put, List.setIfInBounds_toArray, List.set_cons_zero, List.set_cons_succ]
          refine wpAnyH_take (i := 1) (oi := { dst := some 38, op := Op.move (Operand.tmp 37), type := 4, pos := "ref.go:23", after := #[{ on := 0, ground := Ground.data }], guard := none }) (v := ?_) rfl (by kernel_rfl) (by kernel_rfl) (by kernel_rfl) (fun _ _ _ h => h) (.inl ⟨by rfl, ?_⟩) (by assumption) ?_
          rotate_left
          · intro w hSw; (try dsimp only at hSw); go_simp; try (with_reducible rfl)
          try simp only [Act.put, List.setIfInBounds_toArray, List.set_cons_zero, List.set_cons_succ]
          refine wpAnyH_take (i := 2) (oi := { dst := some 39, op := Op.load 30 (Operand.tmp 1), type := 30, pos := "ref.go:23", after := #[{ on := 1, ground := Ground.guard }], guard := some (1, true) }) (v := ?_) rfl (by kernel_rfl) (by kernel_rfl) (by kernel_rfl) (fun _ _ _ h => h) (.inl ⟨by rfl, ?_⟩) (by assumption) ?_
          rotate_left
          · intro w hSw; (try dsimp only at hSw); go_simp; try (with_reducible rfl)
          try simp only [Act.put, List.setIfInBounds_toArray, List.set_cons_zero, List.set_cons_succ]
          refine wpAnyH_take (i := 3) (oi := { dst := some 40, op := Op.fieldAddr 30 (Operand.tmp 1) 1, type := 0, pos := "ref.go:23", after := #[{ on := 1, ground := Ground.guard }], guard := some (1, true) }) (v := ?_) rfl (by kernel_rfl) (by kernel_rfl) (by kernel_rfl) (fun _ _ _ h => h) (.inl ⟨by rfl, ?_⟩) (by assumption) ?_
          rotate_left
          · intro w hSw; (try dsimp only at hSw); go_simp; try (with_reducible rfl)
          try simp only [Act.put, List.setIfInBounds_toArray, List.set_cons_zero, List.set_cons_succ]
          refine wpAnyH_take (i := 4) (oi := { dst := some 41, op := Op.load 26 (Operand.tmp 40), type := 26, pos := "ref.go:23", after := #[{ on := 3, ground := Ground.data }, { on := 1, ground := Ground.guard }], guard := some (1, true) }) (v := ?_) rfl (by kernel_rfl) (by kernel_rfl) (by kernel_rfl) (fun _ _ _ h => h) (.inl ⟨by rfl, ?_⟩) (by assumption) ?_
          rotate_left
          · intro w hSw; (try dsimp only at hSw); go_simp; try (with_reducible rfl)
          try simp only [Act.put, List.setIfInBounds_toArray, List.set_cons_zero, List.set_cons_succ]
          refine wpAnyH_take (i := 5) (oi := { dst := some 42, op := Op.move (Operand.tmp 5), type := 3, pos := "ref.go:23", after := #[{ on := 1, ground := Ground.guard }], guard := some (1, true) }) (v := ?_) rfl (by kernel_rfl) (by kernel_rfl) (by kernel_rfl) (fun _ _ _ h => h) (.inl ⟨by rfl, ?_⟩) (by assumption) ?_
          rotate_left
          · intro w hSw; (try dsimp only at hSw); go_simp; try (with_reducible rfl)
          try simp only [Act.put, List.setIfInBounds_toArray, List.set_cons_zero, List.set_cons_succ]
          refine wpAnyH_take (i := 6) (oi := { dst := some 43, op := Op.indexAddr 26 (Operand.tmp 41) (Operand.tmp 42), type := 0, pos := "ref.go:23", after := #[{ on := 4, ground := Ground.data }, { on := 5, ground := Ground.data }, { on := 1, ground := Ground.guard }], guard := some (1, true) }) (v := ?_) rfl (by kernel_rfl) (by kernel_rfl) (by kernel_rfl) (fun _ _ _ h => h) (.inl ⟨by rfl, ?_⟩) (by assumption) ?_
          rotate_left
          · intro w hSw; (try dsimp only at hSw); go_simp; try (with_reducible rfl)
          try simp only [Act.put, List.setIfInBounds_toArray, List.set_cons_zero, List.set_cons_succ]
          refine wpAnyH_take (i := 7) (oi := { dst := some 44, op := Op.fieldAddr 43 (Operand.tmp 43) 0, type := 0, pos := "ref.go:23", after := #[{ on := 6, ground := Ground.data }, { on := 1, ground := Ground.guard }], guard := some (1, true) }) (v := ?_) rfl (by kernel_rfl) (by kernel_rfl) (by kernel_rfl) (fun _ _ _ h => h) (.inl ⟨by rfl, ?_⟩) (by assumption) ?_
          rotate_left
          · intro w hSw; (try dsimp only at hSw); go_simp; try (with_reducible rfl)
          try simp only [Act.put, List.setIfInBounds_toArray, List.set_cons_zero, List.set_cons_succ]
          refine wpAnyH_take (i := 8) (oi := { dst := some 45, op := Op.load 3 (Operand.tmp 44), type := 3, pos := "ref.go:23", after := #[{ on := 7, ground := Ground.data }, { on := 1, ground := Ground.guard }], guard := some (1, true) }) (v := ?_) rfl (by kernel_rfl) (by kernel_rfl) (by kernel_rfl) (fun _ _ _ h => h) (.inl ⟨by rfl, ?_⟩) (by assumption) ?_
          rotate_left
          · intro w hSw; (try dsimp only at hSw); go_simp; try (with_reducible rfl)
          try simp only [Act.put, List.setIfInBounds_toArray, List.set_cons_zero, List.set_cons_succ]
          refine wpAnyH_ready (rs := [9]) (by kernel_rfl) (by simp) ?_
          refine AllReadyH.cons (o := { dst := some 46, op := Op.call { callee := Callee.value (Operand.func 32), args := #[Operand.tmp 39, Operand.tmp 45], argTypes := #[30, 3] }, type := 4, pos := "ref.go:23", after := #[{ on := 2, ground := Ground.data }, { on := 8, ground := Ground.data }, { on := 1, ground := Ground.chain }, { on := 1, ground := Ground.guard }], guard := some (1, true) }) rfl (fun K hK => ?_) AllReadyH.nil
          go_simp
          go_at_call 32
          refine (is_any t.wishes[m].cross).mono ?_
          rintro e w2 ⟨rfl, hq⟩
          have hq2 := held_step (wr := wr) hHeld hq
          rw [show decide (0 ≤ t.wishes[m].cross ∧ t.wishes[m].cross < t.cloth.crosses.length) = false from HI.out]
          refine hK.out _ _ (by assumption) (fun hHeld => ?_)
          clear hK K
          try simp only [Act.put, List.setIfInBounds_toArray, List.set_cons_zero, List.set_cons_succ]
          refine wpAnyH_take (i := 10) (oi := { dst := some 47, op := Op.pick (Operand.tmp 38) (Operand.tmp 46) (Operand.const (Value.bool false)), type := 4, pos := "ref.go:23", after := #[{ on := 1, ground := Ground.data }, { on := 9, ground := Ground.data }], guard := none }) (v := ?_) rfl (by kernel_rfl) (by kernel_rfl) (by kernel_rfl) (fun _ _ _ h => h) (.inl ⟨by rfl, ?_⟩) (by assumption) ?_
          rotate_left
          · intro w hSw; (try dsimp only at hSw); go_simp; try (with_reducible rfl)
          try simp only [Act.put, List.setIfInBounds_toArray, List.set_cons_zero, List.set_cons_succ]
          refine wpAnyH_take (i := 11) (oi := { dst := some 48, op := Op.move (Operand.tmp 47), type := 4, pos := "ref.go:23", after := #[{ on := 10, ground := Ground.data }, { on := 9, ground := Ground.chain }], guard := none }) (v := ?_) rfl (by kernel_rfl) (by kernel_rfl) (by kernel_rfl) (fun _ _ _ h => h) (.inl ⟨by rfl, ?_⟩) (by assumption) ?_
          rotate_left
          · intro w hSw; (try dsimp only at hSw); go_simp; try (with_reducible rfl)
          try simp only [Act.put, List.setIfInBounds_toArray, List.set_cons_zero, List.set_cons_succ]
          refine wpAnyH_take (i := 12) (oi := { dst := some 49, op := Op.fieldAddr 30 (Operand.tmp 1) 1, type := 0, pos := "ref.go:23", after := #[{ on := 11, ground := Ground.guard }], guard := some (11, true) }) (v := undef) rfl (by kernel_rfl) (by kernel_rfl) (by kernel_rfl) (fun _ _ _ h => h) (.inr ⟨by rfl, rfl⟩) (by assumption) ?_
          try simp only [Act.put, List.setIfInBounds_toArray, List.set_cons_zero, List.set_cons_succ]
          refine wpAnyH_take (i := 13) (oi := { dst := some 50, op := Op.load 26 (Operand.tmp 49), type := 26, pos := "ref.go:23", after := #[{ on := 12, ground := Ground.data }, { on := 11, ground := Ground.guard }], guard := some (11, true) }) (v := undef) rfl (by kernel_rfl) (by kernel_rfl) (by kernel_rfl) (fun _ _ _ h => h) (.inr ⟨by rfl, rfl⟩) (by assumption) ?_
          try simp only [Act.put, List.setIfInBounds_toArray, List.set_cons_zero, List.set_cons_succ]
          refine wpAnyH_take (i := 14) (oi := { dst := some 51, op := Op.move (Operand.tmp 5), type := 3, pos := "ref.go:23", after := #[{ on := 11, ground := Ground.guard }], guard := some (11, true) }) (v := undef) rfl (by kernel_rfl) (by kernel_rfl) (by kernel_rfl) (fun _ _ _ h => h) (.inr ⟨by rfl, rfl⟩) (by assumption) ?_
          try simp only [Act.put, List.setIfInBounds_toArray, List.set_cons_zero, List.set_cons_succ]
          refine wpAnyH_take (i := 15) (oi := { dst := some 52, op := Op.indexAddr 26 (Operand.tmp 50) (Operand.tmp 51), type := 0, pos := "ref.go:23", after := #[{ on := 13, ground := Ground.data }, { on := 14, ground := Ground.data }, { on := 11, ground := Ground.guard }], guard := some (11, true) }) (v := undef) rfl (by kernel_rfl) (by kernel_rfl) (by kernel_rfl) (fun _ _ _ h => h) (.inr ⟨by rfl, rfl⟩) (by assumption) ?_
          try simp only [Act.put, List.setIfInBounds_toArray, List.set_cons_zero, List.set_cons_succ]
          refine wpAnyH_take (i := 16) (oi := { dst := some 53, op := Op.fieldAddr 43 (Operand.tmp 52) 1, type := 0, pos := "ref.go:23", after := #[{ on := 15, ground := Ground.data }, { on := 11, ground := Ground.guard }], guard := some (11, true) }) (v := undef) rfl (by kernel_rfl) (by kernel_rfl) (by kernel_rfl) (fun _ _ _ h => h) (.inr ⟨by rfl, rfl⟩) (by assumption) ?_
          try simp only [Act.put, List.setIfInBounds_toArray, List.set_cons_zero, List.set_cons_succ]
          refine wpAnyH_take (i := 17) (oi := { dst := some 54, op := Op.load 5 (Operand.tmp 53), type := 5, pos := "ref.go:23", after := #[{ on := 16, ground := Ground.data }, { on := 11, ground := Ground.guard }], guard := some (11, true) }) (v := undef) rfl (by kernel_rfl) (by kernel_rfl) (by kernel_rfl) (fun _ _ _ h => h) (.inr ⟨by rfl, rfl⟩) (by assumption) ?_
          try simp only [Act.put, List.setIfInBounds_toArray, List.set_cons_zero, List.set_cons_succ]
          refine wpAnyH_take (i := 18) (oi := { dst := some 55, op := Op.binOp BinOp.lss 5 (Operand.tmp 54) (Operand.const (Value.int IntKind.u8 64)) 5, type := 4, pos := "ref.go:23", after := #[{ on := 17, ground := Ground.data }, { on := 11, ground := Ground.guard }], guard := some (11, true) }) (v := undef) rfl (by kernel_rfl) (by kernel_rfl) (by kernel_rfl) (fun _ _ _ h => h) (.inr ⟨by rfl, rfl⟩) (by assumption) ?_
          try simp only [Act.put, List.setIfInBounds_toArray, List.set_cons_zero, List.set_cons_succ]
          refine wpAnyH_take (i := 19) (oi := { dst := some 56, op := Op.pick (Operand.tmp 48) (Operand.tmp 55) (Operand.const (Value.bool false)), type := 4, pos := "ref.go:23", after := #[{ on := 11, ground := Ground.data }, { on := 18, ground := Ground.data }], guard := none }) (v := ?_) rfl (by kernel_rfl) (by kernel_rfl) (by kernel_rfl) (fun _ _ _ h => h) (.inl ⟨by rfl, ?_⟩) (by assumption) ?_
          rotate_left
          · intro w hSw; (try dsimp only at hSw); go_simp; try (with_reducible rfl)
          try simp only [Act.put, List.setIfInBounds_toArray, List.set_cons_zero, List.set_cons_succ]
          refine wpAnyH_take (i := 20) (oi := { dst := some 4, op := Op.assign (Operand.tmp 56), type := 4, pos := "ref.go:23", after := #[{ on := 19, ground := Ground.data }, { on := 11, ground := Ground.chain }, { on := 0, ground := Ground.phase }, { on := 1, ground := Ground.phase }, { on := 2, ground := Ground.phase }, { on := 3, ground := Ground.phase }, { on := 4, ground := Ground.phase }, { on := 5, ground := Ground.phase }, { on := 6, ground := Ground.phase }, { on := 7, ground := Ground.phase }, { on := 8, ground := Ground.phase }, { on := 9, ground := Ground.phase }, { on := 10, ground := Ground.phase }, { on := 11, ground := Ground.phase }, { on := 12, ground := Ground.phase }, { on := 13, ground := Ground.phase }, { on := 14, ground := Ground.phase }, { on := 15, ground := Ground.phase }, { on := 16, ground := Ground.phase }, { on := 17, ground := Ground.phase }, { on := 18, ground := Ground.phase }, { on := 19, ground := Ground.phase }], guard := none }) (v := ?_) rfl (by kernel_rfl) (by kernel_rfl) (by kernel_rfl) (fun _ _ _ h => h) (.inl ⟨by rfl, ?_⟩) (by assumption) ?_
          rotate_left
          · intro w hSw; (try dsimp only at hSw); go_simp; try (with_reducible rfl)
          try simp only [Act.put, List.setIfInBounds_toArray, List.set_cons_zero, List.set_cons_succ]
          refine wpAnyH_done (by kernel_rfl) ?_ _
          refine NoPanic.normal ?_
          have hend := hbl.trans (hq2.1.mono hszr)
          clear hq2 hq hcell hHeld
          go_wp2
          go_roundw
          case rel => exact ⟨m + 1, by omega, by go_num, by rw [HS.out, HG.out, HW.out]; rfl, hend⟩
          case measure => simp [intOf]; omega
    · obtain rfl : m = t.wishes.length := by omega
      rw [List.take_length]
      generalize hg1 : t.wishes.all (wishOk t.cloth.crosses.length) = g1
      have HG1 := Lib.hid hg1
      clear hg1
      go_wp2
      obtain ⟨wo, rfl⟩ : ∃ wo : World, wo = wr := ⟨_, rfl⟩
      clear hcell
      go_loopw [4, 6] (fun g i wr => ∃ m : Nat, m ≤ t.unlike.length ∧ i = .int .i64 m ∧ g = .bool (g1 && (t.unlike.take m).all (pairOk t.cloth.crosses.length)) ∧ Below (w.heap.size + 1) (w.alloc (.cells #[.int .i64 t.cloth.threads, .slice cA t.cloth.crosses.length cc, .slice pA t.cloth.pins.length pc, .slice wA t.wishes.length wc, .slice uA t.unlike.length uc,
      .int .i64 t.s0, .int .i64 t.s1, .int .i64 t.s2, .int .i64 t.s3, .int .i64 t.s4, .int .i64 t.s5] 30)) wr) (fun _ i _ => t.unlike.length - (intOf i).toNat)
      case atStart => exact ⟨0, by omega, rfl, by simp, hbl⟩
      case round =>
        clear hbl hszr
        obtain ⟨m, hm, rfl, rfl, hbl⟩ := hrel
        obtain ⟨hcell, _⟩ := bcell hbl
        have hszr : w.heap.size + 1 ≤ wr.heap.size := by have := hbl.size; simp at this; omega
        by_cases hml : m < t.unlike.length
        · obtain ⟨b, off, rfl, hb, k0, k1⟩ := h.unlike.pair hml
          have hb1 : b < w.heap.size + 1 := by omega
          have hbr : b < wr.heap.size := by omega
          have hxr : w.heap.size < wr.heap.size := by omega
          have HS := Lib.hid (all_take_succ (f := pairOk t.cloth.crosses.length) hml)
          cases hg : g1 && (t.unlike.take m).all (pairOk t.cloth.crosses.length) with
          | false =>
            have HG := Lib.hid hg
            clear hg
            go_wp2
            go_quiet (fail)
            go_wp2
            go_roundw
            case rel => exact ⟨m + 1, by omega, by go_num, by rw [HS.out, ← Bool.and_assoc, HG.out]; rfl, below_drewN hbl _⟩
            case measure => simp [intOf]; omega
          | true =>
            have HG := Lib.hid hg
            clear hg
            cases hi1 : isB t.cloth.crosses.length t.unlike[m].1 with
            | false =>
              have HI := Lib.hid hi1
              clear hi1
              have HW : Hid (pairOk t.cloth.crosses.length t.unlike[m] = false) := by
                unfold Hid pairOk; rw [HI.out]; rfl
              go_wp2
              refine wp_region_noPanic ?_
              refine wp_region_held_drew (S := (fun w' => Below wr.heap.size wr w' ∧ (∀ b o, b < wr.heap.size → w'.cell? ⟨b, o, none⟩ = wr.cell? ⟨b, o, none⟩))) (by kernel_rfl) ?_ (fun hHeld => ?_)
              · exact held_drew _
              refine wpAnyH_take (i := 0) (oi := { dst := some 64, op := Op.move (Operand.tmp 4), type := 4, pos := "ref.go:26", after := #[], guard := none }) (v := ?_) rfl (by kernel_rfl) (by kernel_rfl) (by kernel_rfl) (fun _ _ _ h => h) (.inl ⟨by rfl, ?_⟩) (by assumption) ?_
              rotate_left
              · intro w hSw; (try dsimp only at hSw); go_simp; try (with_reducible rfl)
              try simp only [Act.put, List.setIfInBounds_toArray, List.set_cons_zero, List.set_cons_succ]
              refine wpAnyH_take (i := 1) (oi := { dst := some 65, op := Op.move (Operand.tmp 64), type := 4, pos := "ref.go:26", after := #[{ on := 0, ground := Ground.data }], guard := none }) (v := ?_) rfl (by kernel_rfl) (by kernel_rfl) (by kernel_rfl) (fun _ _ _ h => h) (.inl ⟨by rfl, ?_⟩) (by assumption) ?_
              rotate_left
              · intro w hSw; (try dsimp only at hSw); go_simp; try (with_reducible rfl)
              try simp only [Act.put, List.setIfInBounds_toArray, List.set_cons_zero, List.set_cons_succ]
              refine wpAnyH_take (i := 2) (oi := { dst := some 66, op := Op.load 30 (Operand.tmp 1), type := 30, pos := "ref.go:26", after := #[{ on := 1, ground := Ground.guard }], guard := some (1, true) }) (v := ?_) rfl (by kernel_rfl) (by kernel_rfl) (by kernel_rfl) (fun _ _ _ h => h) (.inl ⟨by rfl, ?_⟩) (by assumption) ?_
              rotate_left
              · intro w hSw; (try dsimp only at hSw); go_simp; try (with_reducible rfl)
              try simp only [Act.put, List.setIfInBounds_toArray, List.set_cons_zero, List.set_cons_succ]
              refine wpAnyH_take (i := 3) (oi := { dst := some 67, op := Op.fieldAddr 30 (Operand.tmp 1) 2, type := 0, pos := "ref.go:26", after := #[{ on := 1, ground := Ground.guard }], guard := some (1, true) }) (v := ?_) rfl (by kernel_rfl) (by kernel_rfl) (by kernel_rfl) (fun _ _ _ h => h) (.inl ⟨by rfl, ?_⟩) (by assumption) ?_
              rotate_left
              · intro w hSw; (try dsimp only at hSw); go_simp; try (with_reducible rfl)
              try simp only [Act.put, List.setIfInBounds_toArray, List.set_cons_zero, List.set_cons_succ]
              refine wpAnyH_take (i := 4) (oi := { dst := some 68, op := Op.load 27 (Operand.tmp 67), type := 27, pos := "ref.go:26", after := #[{ on := 3, ground := Ground.data }, { on := 1, ground := Ground.guard }], guard := some (1, true) }) (v := ?_) rfl (by kernel_rfl) (by kernel_rfl) (by kernel_rfl) (fun _ _ _ h => h) (.inl ⟨by rfl, ?_⟩) (by assumption) ?_
              rotate_left
              · intro w hSw; (try dsimp only at hSw); go_simp; try (with_reducible rfl)
              try simp only [Act.put, List.setIfInBounds_toArray, List.set_cons_zero, List.set_cons_succ]
              refine wpAnyH_take (i := 5) (oi := { dst := some 69, op := Op.move (Operand.tmp 6), type := 3, pos := "ref.go:26", after := #[{ on := 1, ground := Ground.guard }], guard := some (1, true) }) (v := ?_) rfl (by kernel_rfl) (by kernel_rfl) (by kernel_rfl) (fun _ _ _ h => h) (.inl ⟨by rfl, ?_⟩) (by assumption) ?_
              rotate_left
              · intro w hSw; (try dsimp only at hSw); go_simp; try (with_reducible rfl)
              try simp only [Act.put, List.setIfInBounds_toArray, List.set_cons_zero, List.set_cons_succ]
              refine wpAnyH_take (i := 6) (oi := { dst := some 70, op := Op.indexAddr 27 (Operand.tmp 68) (Operand.tmp 69), type := 0, pos := "ref.go:26", after := #[{ on := 4, ground := Ground.data }, { on := 5, ground := Ground.data }, { on := 1, ground := Ground.guard }], guard := some (1, true) }) (v := ?_) rfl (by kernel_rfl) (by kernel_rfl) (by kernel_rfl) (fun _ _ _ h => h) (.inl ⟨by rfl, ?_⟩) (by assumption) ?_
              rotate_left
              · intro w hSw; (try dsimp only at hSw); go_simp; try (with_reducible rfl)
              try simp only [Act.put, List.setIfInBounds_toArray, List.set_cons_zero, List.set_cons_succ]
              refine wpAnyH_take (i := 7) (oi := { dst := some 71, op := Op.indexAddr 64 (Operand.tmp 70) (Operand.const (Value.int IntKind.i64 0)), type := 0, pos := "ref.go:26", after := #[{ on := 6, ground := Ground.data }, { on := 1, ground := Ground.guard }], guard := some (1, true) }) (v := ?_) rfl (by kernel_rfl) (by kernel_rfl) (by kernel_rfl) (fun _ _ _ h => h) (.inl ⟨by rfl, ?_⟩) (by assumption) ?_
              rotate_left
              · intro w hSw; (try dsimp only at hSw); go_simp; try (with_reducible rfl)
              try simp only [Act.put, List.setIfInBounds_toArray, List.set_cons_zero, List.set_cons_succ]
              refine wpAnyH_take (i := 8) (oi := { dst := some 72, op := Op.load 3 (Operand.tmp 71), type := 3, pos := "ref.go:26", after := #[{ on := 7, ground := Ground.data }, { on := 1, ground := Ground.guard }], guard := some (1, true) }) (v := ?_) rfl (by kernel_rfl) (by kernel_rfl) (by kernel_rfl) (fun _ _ _ h => h) (.inl ⟨by rfl, ?_⟩) (by assumption) ?_
              rotate_left
              · intro w hSw; (try dsimp only at hSw); go_simp; try (with_reducible rfl)
              try simp only [Act.put, List.setIfInBounds_toArray, List.set_cons_zero, List.set_cons_succ]
              refine wpAnyH_ready (rs := [9]) (by kernel_rfl) (by simp) ?_
              refine AllReadyH.cons (o := { dst := some 73, op := Op.call { callee := Callee.value (Operand.func 32), args := #[Operand.tmp 66, Operand.tmp 72], argTypes := #[30, 3] }, type := 4, pos := "ref.go:26", after := #[{ on := 2, ground := Ground.data }, { on := 8, ground := Ground.data }, { on := 1, ground := Ground.chain }, { on := 1, ground := Ground.guard }], guard := some (1, true) }) rfl (fun K hK => ?_) AllReadyH.nil
              go_simp
              go_at_call 32
              refine (is_any t.unlike[m].1).mono ?_
              rintro e w2 ⟨rfl, hq⟩
              have hq2 := held_step (wr := wr) hHeld hq
              rw [show decide (0 ≤ t.unlike[m].1 ∧ t.unlike[m].1 < t.cloth.crosses.length) = false from HI.out]
              refine hK.out _ _ (by assumption) (fun hHeld => ?_)
              clear hK K
              try simp only [Act.put, List.setIfInBounds_toArray, List.set_cons_zero, List.set_cons_succ]
              refine wpAnyH_take (i := 10) (oi := { dst := some 74, op := Op.pick (Operand.tmp 65) (Operand.tmp 73) (Operand.const (Value.bool false)), type := 4, pos := "ref.go:26", after := #[{ on := 1, ground := Ground.data }, { on := 9, ground := Ground.data }], guard := none }) (v := ?_) rfl (by kernel_rfl) (by kernel_rfl) (by kernel_rfl) (fun _ _ _ h => h) (.inl ⟨by rfl, ?_⟩) (by assumption) ?_
              rotate_left
              · intro w hSw; (try dsimp only at hSw); go_simp; try (with_reducible rfl)
              try simp only [Act.put, List.setIfInBounds_toArray, List.set_cons_zero, List.set_cons_succ]
              refine wpAnyH_take (i := 11) (oi := { dst := some 75, op := Op.move (Operand.tmp 74), type := 4, pos := "ref.go:26", after := #[{ on := 10, ground := Ground.data }, { on := 9, ground := Ground.chain }], guard := none }) (v := ?_) rfl (by kernel_rfl) (by kernel_rfl) (by kernel_rfl) (fun _ _ _ h => h) (.inl ⟨by rfl, ?_⟩) (by assumption) ?_
              rotate_left
              · intro w hSw; (try dsimp only at hSw); go_simp; try (with_reducible rfl)
              try simp only [Act.put, List.setIfInBounds_toArray, List.set_cons_zero, List.set_cons_succ]
              refine wpAnyH_take (i := 12) (oi := { dst := some 76, op := Op.load 30 (Operand.tmp 1), type := 30, pos := "ref.go:26", after := #[{ on := 11, ground := Ground.guard }], guard := some (11, true) }) (v := undef) rfl (by kernel_rfl) (by kernel_rfl) (by kernel_rfl) (fun _ _ _ h => h) (.inr ⟨by rfl, rfl⟩) (by assumption) ?_
              try simp only [Act.put, List.setIfInBounds_toArray, List.set_cons_zero, List.set_cons_succ]
              refine wpAnyH_take (i := 13) (oi := { dst := some 77, op := Op.fieldAddr 30 (Operand.tmp 1) 2, type := 0, pos := "ref.go:26", after := #[{ on := 11, ground := Ground.guard }], guard := some (11, true) }) (v := undef) rfl (by kernel_rfl) (by kernel_rfl) (by kernel_rfl) (fun _ _ _ h => h) (.inr ⟨by rfl, rfl⟩) (by assumption) ?_
              try simp only [Act.put, List.setIfInBounds_toArray, List.set_cons_zero, List.set_cons_succ]
              refine wpAnyH_take (i := 14) (oi := { dst := some 78, op := Op.load 27 (Operand.tmp 77), type := 27, pos := "ref.go:26", after := #[{ on := 13, ground := Ground.data }, { on := 11, ground := Ground.guard }], guard := some (11, true) }) (v := undef) rfl (by kernel_rfl) (by kernel_rfl) (by kernel_rfl) (fun _ _ _ h => h) (.inr ⟨by rfl, rfl⟩) (by assumption) ?_
              try simp only [Act.put, List.setIfInBounds_toArray, List.set_cons_zero, List.set_cons_succ]
              refine wpAnyH_take (i := 15) (oi := { dst := some 79, op := Op.move (Operand.tmp 6), type := 3, pos := "ref.go:26", after := #[{ on := 11, ground := Ground.guard }], guard := some (11, true) }) (v := undef) rfl (by kernel_rfl) (by kernel_rfl) (by kernel_rfl) (fun _ _ _ h => h) (.inr ⟨by rfl, rfl⟩) (by assumption) ?_
              try simp only [Act.put, List.setIfInBounds_toArray, List.set_cons_zero, List.set_cons_succ]
              refine wpAnyH_take (i := 16) (oi := { dst := some 80, op := Op.indexAddr 27 (Operand.tmp 78) (Operand.tmp 79), type := 0, pos := "ref.go:26", after := #[{ on := 14, ground := Ground.data }, { on := 15, ground := Ground.data }, { on := 11, ground := Ground.guard }], guard := some (11, true) }) (v := undef) rfl (by kernel_rfl) (by kernel_rfl) (by kernel_rfl) (fun _ _ _ h => h) (.inr ⟨by rfl, rfl⟩) (by assumption) ?_
              try simp only [Act.put, List.setIfInBounds_toArray, List.set_cons_zero, List.set_cons_succ]
              refine wpAnyH_take (i := 17) (oi := { dst := some 81, op := Op.indexAddr 64 (Operand.tmp 80) (Operand.const (Value.int IntKind.i64 1)), type := 0, pos := "ref.go:26", after := #[{ on := 16, ground := Ground.data }, { on := 11, ground := Ground.guard }], guard := some (11, true) }) (v := undef) rfl (by kernel_rfl) (by kernel_rfl) (by kernel_rfl) (fun _ _ _ h => h) (.inr ⟨by rfl, rfl⟩) (by assumption) ?_
              try simp only [Act.put, List.setIfInBounds_toArray, List.set_cons_zero, List.set_cons_succ]
              refine wpAnyH_take (i := 18) (oi := { dst := some 82, op := Op.load 3 (Operand.tmp 81), type := 3, pos := "ref.go:26", after := #[{ on := 17, ground := Ground.data }, { on := 11, ground := Ground.guard }], guard := some (11, true) }) (v := undef) rfl (by kernel_rfl) (by kernel_rfl) (by kernel_rfl) (fun _ _ _ h => h) (.inr ⟨by rfl, rfl⟩) (by assumption) ?_
              try simp only [Act.put, List.setIfInBounds_toArray, List.set_cons_zero, List.set_cons_succ]
              refine wpAnyH_take (i := 19) (oi := { dst := some 83, op := Op.call { callee := Callee.value (Operand.func 32), args := #[Operand.tmp 76, Operand.tmp 82], argTypes := #[30, 3] }, type := 4, pos := "ref.go:26", after := #[{ on := 12, ground := Ground.data }, { on := 18, ground := Ground.data }, { on := 11, ground := Ground.chain }, { on := 11, ground := Ground.guard }], guard := some (11, true) }) (v := undef) rfl (by kernel_rfl) (by kernel_rfl) (by kernel_rfl) (fun _ _ _ h => h) (.inr ⟨by rfl, rfl⟩) (by assumption) ?_
              try simp only [Act.put, List.setIfInBounds_toArray, List.set_cons_zero, List.set_cons_succ]
              refine wpAnyH_take (i := 20) (oi := { dst := some 84, op := Op.pick (Operand.tmp 75) (Operand.tmp 83) (Operand.const (Value.bool false)), type := 4, pos := "ref.go:26", after := #[{ on := 11, ground := Ground.data }, { on := 19, ground := Ground.data }], guard := none }) (v := ?_) rfl (by kernel_rfl) (by kernel_rfl) (by kernel_rfl) (fun _ _ _ h => h) (.inl ⟨by rfl, ?_⟩) (by assumption) ?_
              rotate_left
              · intro w hSw; (try dsimp only at hSw); go_simp; try (with_reducible rfl)
              try simp only [Act.put, List.setIfInBounds_toArray, List.set_cons_zero, List.set_cons_succ]
              refine wpAnyH_take (i := 21) (oi := { dst := some 85, op := Op.move (Operand.tmp 84), type := 4, pos := "ref.go:26", after := #[{ on := 20, ground := Ground.data }, { on := 19, ground := Ground.chain }], guard := none }) (v := ?_) rfl (by kernel_rfl) (by kernel_rfl) (by kernel_rfl) (fun _ _ _ h => h) (.inl ⟨by rfl, ?_⟩) (by assumption) ?_
              rotate_left
              · intro w hSw; (try dsimp only at hSw); go_simp; try (with_reducible rfl)
              try simp only [Act.put, List.setIfInBounds_toArray, List.set_cons_zero, List.set_cons_succ]
              refine wpAnyH_take (i := 22) (oi := { dst := some 86, op := Op.fieldAddr 30 (Operand.tmp 1) 2, type := 0, pos := "ref.go:26", after := #[{ on := 21, ground := Ground.guard }], guard := some (21, true) }) (v := undef) rfl (by kernel_rfl) (by kernel_rfl) (by kernel_rfl) (fun _ _ _ h => h) (.inr ⟨by rfl, rfl⟩) (by assumption) ?_
              try simp only [Act.put, List.setIfInBounds_toArray, List.set_cons_zero, List.set_cons_succ]
              refine wpAnyH_take (i := 23) (oi := { dst := some 87, op := Op.load 27 (Operand.tmp 86), type := 27, pos := "ref.go:26", after := #[{ on := 22, ground := Ground.data }, { on := 21, ground := Ground.guard }], guard := some (21, true) }) (v := undef) rfl (by kernel_rfl) (by kernel_rfl) (by kernel_rfl) (fun _ _ _ h => h) (.inr ⟨by rfl, rfl⟩) (by assumption) ?_
              try simp only [Act.put, List.setIfInBounds_toArray, List.set_cons_zero, List.set_cons_succ]
              refine wpAnyH_take (i := 24) (oi := { dst := some 88, op := Op.move (Operand.tmp 6), type := 3, pos := "ref.go:26", after := #[{ on := 21, ground := Ground.guard }], guard := some (21, true) }) (v := undef) rfl (by kernel_rfl) (by kernel_rfl) (by kernel_rfl) (fun _ _ _ h => h) (.inr ⟨by rfl, rfl⟩) (by assumption) ?_
              try simp only [Act.put, List.setIfInBounds_toArray, List.set_cons_zero, List.set_cons_succ]
              refine wpAnyH_take (i := 25) (oi := { dst := some 89, op := Op.indexAddr 27 (Operand.tmp 87) (Operand.tmp 88), type := 0, pos := "ref.go:26", after := #[{ on := 23, ground := Ground.data }, { on := 24, ground := Ground.data }, { on := 21, ground := Ground.guard }], guard := some (21, true) }) (v := undef) rfl (by kernel_rfl) (by kernel_rfl) (by kernel_rfl) (fun _ _ _ h => h) (.inr ⟨by rfl, rfl⟩) (by assumption) ?_
              try simp only [Act.put, List.setIfInBounds_toArray, List.set_cons_zero, List.set_cons_succ]
              refine wpAnyH_take (i := 26) (oi := { dst := some 90, op := Op.indexAddr 64 (Operand.tmp 89) (Operand.const (Value.int IntKind.i64 0)), type := 0, pos := "ref.go:26", after := #[{ on := 25, ground := Ground.data }, { on := 21, ground := Ground.guard }], guard := some (21, true) }) (v := undef) rfl (by kernel_rfl) (by kernel_rfl) (by kernel_rfl) (fun _ _ _ h => h) (.inr ⟨by rfl, rfl⟩) (by assumption) ?_
              try simp only [Act.put, List.setIfInBounds_toArray, List.set_cons_zero, List.set_cons_succ]
              refine wpAnyH_take (i := 27) (oi := { dst := some 91, op := Op.load 3 (Operand.tmp 90), type := 3, pos := "ref.go:26", after := #[{ on := 26, ground := Ground.data }, { on := 21, ground := Ground.guard }], guard := some (21, true) }) (v := undef) rfl (by kernel_rfl) (by kernel_rfl) (by kernel_rfl) (fun _ _ _ h => h) (.inr ⟨by rfl, rfl⟩) (by assumption) ?_
              try simp only [Act.put, List.setIfInBounds_toArray, List.set_cons_zero, List.set_cons_succ]
              refine wpAnyH_take (i := 28) (oi := { dst := some 92, op := Op.fieldAddr 30 (Operand.tmp 1) 2, type := 0, pos := "ref.go:26", after := #[{ on := 21, ground := Ground.guard }], guard := some (21, true) }) (v := undef) rfl (by kernel_rfl) (by kernel_rfl) (by kernel_rfl) (fun _ _ _ h => h) (.inr ⟨by rfl, rfl⟩) (by assumption) ?_
              try simp only [Act.put, List.setIfInBounds_toArray, List.set_cons_zero, List.set_cons_succ]
              refine wpAnyH_take (i := 29) (oi := { dst := some 93, op := Op.load 27 (Operand.tmp 92), type := 27, pos := "ref.go:26", after := #[{ on := 28, ground := Ground.data }, { on := 21, ground := Ground.guard }], guard := some (21, true) }) (v := undef) rfl (by kernel_rfl) (by kernel_rfl) (by kernel_rfl) (fun _ _ _ h => h) (.inr ⟨by rfl, rfl⟩) (by assumption) ?_
              try simp only [Act.put, List.setIfInBounds_toArray, List.set_cons_zero, List.set_cons_succ]
              refine wpAnyH_take (i := 30) (oi := { dst := some 94, op := Op.move (Operand.tmp 6), type := 3, pos := "ref.go:26", after := #[{ on := 21, ground := Ground.guard }], guard := some (21, true) }) (v := undef) rfl (by kernel_rfl) (by kernel_rfl) (by kernel_rfl) (fun _ _ _ h => h) (.inr ⟨by rfl, rfl⟩) (by assumption) ?_
              try simp only [Act.put, List.setIfInBounds_toArray, List.set_cons_zero, List.set_cons_succ]
              refine wpAnyH_take (i := 31) (oi := { dst := some 95, op := Op.indexAddr 27 (Operand.tmp 93) (Operand.tmp 94), type := 0, pos := "ref.go:26", after := #[{ on := 29, ground := Ground.data }, { on := 30, ground := Ground.data }, { on := 21, ground := Ground.guard }], guard := some (21, true) }) (v := undef) rfl (by kernel_rfl) (by kernel_rfl) (by kernel_rfl) (fun _ _ _ h => h) (.inr ⟨by rfl, rfl⟩) (by assumption) ?_
              try simp only [Act.put, List.setIfInBounds_toArray, List.set_cons_zero, List.set_cons_succ]
              refine wpAnyH_take (i := 32) (oi := { dst := some 96, op := Op.indexAddr 64 (Operand.tmp 95) (Operand.const (Value.int IntKind.i64 1)), type := 0, pos := "ref.go:26", after := #[{ on := 31, ground := Ground.data }, { on := 21, ground := Ground.guard }], guard := some (21, true) }) (v := undef) rfl (by kernel_rfl) (by kernel_rfl) (by kernel_rfl) (fun _ _ _ h => h) (.inr ⟨by rfl, rfl⟩) (by assumption) ?_
              try simp only [Act.put, List.setIfInBounds_toArray, List.set_cons_zero, List.set_cons_succ]
              refine wpAnyH_take (i := 33) (oi := { dst := some 97, op := Op.load 3 (Operand.tmp 96), type := 3, pos := "ref.go:26", after := #[{ on := 32, ground := Ground.data }, { on := 21, ground := Ground.guard }], guard := some (21, true) }) (v := undef) rfl (by kernel_rfl) (by kernel_rfl) (by kernel_rfl) (fun _ _ _ h => h) (.inr ⟨by rfl, rfl⟩) (by assumption) ?_
              try simp only [Act.put, List.setIfInBounds_toArray, List.set_cons_zero, List.set_cons_succ]
              refine wpAnyH_take (i := 34) (oi := { dst := some 98, op := Op.binOp BinOp.neq 3 (Operand.tmp 91) (Operand.tmp 97) 3, type := 4, pos := "ref.go:26", after := #[{ on := 27, ground := Ground.data }, { on := 33, ground := Ground.data }, { on := 21, ground := Ground.guard }], guard := some (21, true) }) (v := undef) rfl (by kernel_rfl) (by kernel_rfl) (by kernel_rfl) (fun _ _ _ h => h) (.inr ⟨by rfl, rfl⟩) (by assumption) ?_
              try simp only [Act.put, List.setIfInBounds_toArray, List.set_cons_zero, List.set_cons_succ]
              refine wpAnyH_take (i := 35) (oi := { dst := some 99, op := Op.pick (Operand.tmp 85) (Operand.tmp 98) (Operand.const (Value.bool false)), type := 4, pos := "ref.go:26", after := #[{ on := 21, ground := Ground.data }, { on := 34, ground := Ground.data }], guard := none }) (v := ?_) rfl (by kernel_rfl) (by kernel_rfl) (by kernel_rfl) (fun _ _ _ h => h) (.inl ⟨by rfl, ?_⟩) (by assumption) ?_
              rotate_left
              · intro w hSw; (try dsimp only at hSw); go_simp; try (with_reducible rfl)
              try simp only [Act.put, List.setIfInBounds_toArray, List.set_cons_zero, List.set_cons_succ]
              refine wpAnyH_take (i := 36) (oi := { dst := some 4, op := Op.assign (Operand.tmp 99), type := 4, pos := "ref.go:26", after := #[{ on := 35, ground := Ground.data }, { on := 21, ground := Ground.chain }, { on := 0, ground := Ground.phase }, { on := 1, ground := Ground.phase }, { on := 2, ground := Ground.phase }, { on := 3, ground := Ground.phase }, { on := 4, ground := Ground.phase }, { on := 5, ground := Ground.phase }, { on := 6, ground := Ground.phase }, { on := 7, ground := Ground.phase }, { on := 8, ground := Ground.phase }, { on := 9, ground := Ground.phase }, { on := 10, ground := Ground.phase }, { on := 11, ground := Ground.phase }, { on := 12, ground := Ground.phase }, { on := 13, ground := Ground.phase }, { on := 14, ground := Ground.phase }, { on := 15, ground := Ground.phase }, { on := 16, ground := Ground.phase }, { on := 17, ground := Ground.phase }, { on := 18, ground := Ground.phase }, { on := 19, ground := Ground.phase }, { on := 20, ground := Ground.phase }, { on := 21, ground := Ground.phase }, { on := 22, ground := Ground.phase }, { on := 23, ground := Ground.phase }, { on := 24, ground := Ground.phase }, { on := 25, ground := Ground.phase }, { on := 26, ground := Ground.phase }, { on := 27, ground := Ground.phase }, { on := 28, ground := Ground.phase }, { on := 29, ground := Ground.phase }, { on := 30, ground := Ground.phase }, { on := 31, ground := Ground.phase }, { on := 32, ground := Ground.phase }, { on := 33, ground := Ground.phase }, { on := 34, ground := Ground.phase }, { on := 35, ground := Ground.phase }], guard := none }) (v := ?_) rfl (by kernel_rfl) (by kernel_rfl) (by kernel_rfl) (fun _ _ _ h => h) (.inl ⟨by rfl, ?_⟩) (by assumption) ?_
              rotate_left
              · intro w hSw; (try dsimp only at hSw); go_simp; try (with_reducible rfl)
              try simp only [Act.put, List.setIfInBounds_toArray, List.set_cons_zero, List.set_cons_succ]
              refine wpAnyH_done (by kernel_rfl) ?_ _
              refine NoPanic.normal ?_
              have hend := hbl.trans (hq2.1.mono hszr)
              clear hq2 hq hcell hHeld
              go_wp2
              go_roundw
              case rel => exact ⟨m + 1, by omega, by go_num, by rw [HS.out, ← Bool.and_assoc, HG.out, HW.out]; rfl, hend⟩
              case measure => simp [intOf]; omega
            | true =>
              have HI := Lib.hid hi1
              clear hi1
              cases hi2 : isB t.cloth.crosses.length t.unlike[m].2 with
              | false =>
                have HI2 := Lib.hid hi2
                clear hi2
                have HW : Hid (pairOk t.cloth.crosses.length t.unlike[m] = false) := by
                  unfold Hid pairOk; rw [HI.out, HI2.out]; rfl
                go_wp2
                refine wp_region_noPanic ?_
                refine wp_region_held_drew (S := (fun w' => Below wr.heap.size wr w' ∧ (∀ b o, b < wr.heap.size → w'.cell? ⟨b, o, none⟩ = wr.cell? ⟨b, o, none⟩))) (by kernel_rfl) ?_ (fun hHeld => ?_)
                · exact held_drew _
                refine wpAnyH_take (i := 0) (oi := { dst := some 64, op := Op.move (Operand.tmp 4), type := 4, pos := "ref.go:26", after := #[], guard := none }) (v := ?_) rfl (by kernel_rfl) (by kernel_rfl) (by kernel_rfl) (fun _ _ _ h => h) (.inl ⟨by rfl, ?_⟩) (by assumption) ?_
                rotate_left
                · intro w hSw; (try dsimp only at hSw); go_simp; try (with_reducible rfl)
                try simp only [Act.put, List.setIfInBounds_toArray, List.set_cons_zero, List.set_cons_succ]
                refine wpAnyH_take (i := 1) (oi := { dst := some 65, op := Op.move (Operand.tmp 64), type := 4, pos := "ref.go:26", after := #[{ on := 0, ground := Ground.data }], guard := none }) (v := ?_) rfl (by kernel_rfl) (by kernel_rfl) (by kernel_rfl) (fun _ _ _ h => h) (.inl ⟨by rfl, ?_⟩) (by assumption) ?_
                rotate_left
                · intro w hSw; (try dsimp only at hSw); go_simp; try (with_reducible rfl)
                try simp only [Act.put, List.setIfInBounds_toArray, List.set_cons_zero, List.set_cons_succ]
                refine wpAnyH_take (i := 2) (oi := { dst := some 66, op := Op.load 30 (Operand.tmp 1), type := 30, pos := "ref.go:26", after := #[{ on := 1, ground := Ground.guard }], guard := some (1, true) }) (v := ?_) rfl (by kernel_rfl) (by kernel_rfl) (by kernel_rfl) (fun _ _ _ h => h) (.inl ⟨by rfl, ?_⟩) (by assumption) ?_
                rotate_left
                · intro w hSw; (try dsimp only at hSw); go_simp; try (with_reducible rfl)
                try simp only [Act.put, List.setIfInBounds_toArray, List.set_cons_zero, List.set_cons_succ]
                refine wpAnyH_take (i := 3) (oi := { dst := some 67, op := Op.fieldAddr 30 (Operand.tmp 1) 2, type := 0, pos := "ref.go:26", after := #[{ on := 1, ground := Ground.guard }], guard := some (1, true) }) (v := ?_) rfl (by kernel_rfl) (by kernel_rfl) (by kernel_rfl) (fun _ _ _ h => h) (.inl ⟨by rfl, ?_⟩) (by assumption) ?_
                rotate_left
                · intro w hSw; (try dsimp only at hSw); go_simp; try (with_reducible rfl)
                try simp only [Act.put, List.setIfInBounds_toArray, List.set_cons_zero, List.set_cons_succ]
                refine wpAnyH_take (i := 4) (oi := { dst := some 68, op := Op.load 27 (Operand.tmp 67), type := 27, pos := "ref.go:26", after := #[{ on := 3, ground := Ground.data }, { on := 1, ground := Ground.guard }], guard := some (1, true) }) (v := ?_) rfl (by kernel_rfl) (by kernel_rfl) (by kernel_rfl) (fun _ _ _ h => h) (.inl ⟨by rfl, ?_⟩) (by assumption) ?_
                rotate_left
                · intro w hSw; (try dsimp only at hSw); go_simp; try (with_reducible rfl)
                try simp only [Act.put, List.setIfInBounds_toArray, List.set_cons_zero, List.set_cons_succ]
                refine wpAnyH_take (i := 5) (oi := { dst := some 69, op := Op.move (Operand.tmp 6), type := 3, pos := "ref.go:26", after := #[{ on := 1, ground := Ground.guard }], guard := some (1, true) }) (v := ?_) rfl (by kernel_rfl) (by kernel_rfl) (by kernel_rfl) (fun _ _ _ h => h) (.inl ⟨by rfl, ?_⟩) (by assumption) ?_
                rotate_left
                · intro w hSw; (try dsimp only at hSw); go_simp; try (with_reducible rfl)
                try simp only [Act.put, List.setIfInBounds_toArray, List.set_cons_zero, List.set_cons_succ]
                refine wpAnyH_take (i := 6) (oi := { dst := some 70, op := Op.indexAddr 27 (Operand.tmp 68) (Operand.tmp 69), type := 0, pos := "ref.go:26", after := #[{ on := 4, ground := Ground.data }, { on := 5, ground := Ground.data }, { on := 1, ground := Ground.guard }], guard := some (1, true) }) (v := ?_) rfl (by kernel_rfl) (by kernel_rfl) (by kernel_rfl) (fun _ _ _ h => h) (.inl ⟨by rfl, ?_⟩) (by assumption) ?_
                rotate_left
                · intro w hSw; (try dsimp only at hSw); go_simp; try (with_reducible rfl)
                try simp only [Act.put, List.setIfInBounds_toArray, List.set_cons_zero, List.set_cons_succ]
                refine wpAnyH_take (i := 7) (oi := { dst := some 71, op := Op.indexAddr 64 (Operand.tmp 70) (Operand.const (Value.int IntKind.i64 0)), type := 0, pos := "ref.go:26", after := #[{ on := 6, ground := Ground.data }, { on := 1, ground := Ground.guard }], guard := some (1, true) }) (v := ?_) rfl (by kernel_rfl) (by kernel_rfl) (by kernel_rfl) (fun _ _ _ h => h) (.inl ⟨by rfl, ?_⟩) (by assumption) ?_
                rotate_left
                · intro w hSw; (try dsimp only at hSw); go_simp; try (with_reducible rfl)
                try simp only [Act.put, List.setIfInBounds_toArray, List.set_cons_zero, List.set_cons_succ]
                refine wpAnyH_take (i := 8) (oi := { dst := some 72, op := Op.load 3 (Operand.tmp 71), type := 3, pos := "ref.go:26", after := #[{ on := 7, ground := Ground.data }, { on := 1, ground := Ground.guard }], guard := some (1, true) }) (v := ?_) rfl (by kernel_rfl) (by kernel_rfl) (by kernel_rfl) (fun _ _ _ h => h) (.inl ⟨by rfl, ?_⟩) (by assumption) ?_
                rotate_left
                · intro w hSw; (try dsimp only at hSw); go_simp; try (with_reducible rfl)
                try simp only [Act.put, List.setIfInBounds_toArray, List.set_cons_zero, List.set_cons_succ]
                refine wpAnyH_ready (rs := [9]) (by kernel_rfl) (by simp) ?_
                refine AllReadyH.cons (o := { dst := some 73, op := Op.call { callee := Callee.value (Operand.func 32), args := #[Operand.tmp 66, Operand.tmp 72], argTypes := #[30, 3] }, type := 4, pos := "ref.go:26", after := #[{ on := 2, ground := Ground.data }, { on := 8, ground := Ground.data }, { on := 1, ground := Ground.chain }, { on := 1, ground := Ground.guard }], guard := some (1, true) }) rfl (fun K hK => ?_) AllReadyH.nil
                go_simp
                go_at_call 32
                refine (is_any t.unlike[m].1).mono ?_
                rintro e w2 ⟨rfl, hq⟩
                have hq2 := held_step (wr := wr) hHeld hq
                rw [show decide (0 ≤ t.unlike[m].1 ∧ t.unlike[m].1 < t.cloth.crosses.length) = true from HI.out]
                refine hK.out _ _ (by assumption) (fun hHeld => ?_)
                clear hK K
                try simp only [Act.put, List.setIfInBounds_toArray, List.set_cons_zero, List.set_cons_succ]
                refine wpAnyH_take (i := 10) (oi := { dst := some 74, op := Op.pick (Operand.tmp 65) (Operand.tmp 73) (Operand.const (Value.bool false)), type := 4, pos := "ref.go:26", after := #[{ on := 1, ground := Ground.data }, { on := 9, ground := Ground.data }], guard := none }) (v := ?_) rfl (by kernel_rfl) (by kernel_rfl) (by kernel_rfl) (fun _ _ _ h => h) (.inl ⟨by rfl, ?_⟩) (by assumption) ?_
                rotate_left
                · intro w hSw; (try dsimp only at hSw); go_simp; try (with_reducible rfl)
                try simp only [Act.put, List.setIfInBounds_toArray, List.set_cons_zero, List.set_cons_succ]
                refine wpAnyH_take (i := 11) (oi := { dst := some 75, op := Op.move (Operand.tmp 74), type := 4, pos := "ref.go:26", after := #[{ on := 10, ground := Ground.data }, { on := 9, ground := Ground.chain }], guard := none }) (v := ?_) rfl (by kernel_rfl) (by kernel_rfl) (by kernel_rfl) (fun _ _ _ h => h) (.inl ⟨by rfl, ?_⟩) (by assumption) ?_
                rotate_left
                · intro w hSw; (try dsimp only at hSw); go_simp; try (with_reducible rfl)
                try simp only [Act.put, List.setIfInBounds_toArray, List.set_cons_zero, List.set_cons_succ]
                refine wpAnyH_take (i := 12) (oi := { dst := some 76, op := Op.load 30 (Operand.tmp 1), type := 30, pos := "ref.go:26", after := #[{ on := 11, ground := Ground.guard }], guard := some (11, true) }) (v := ?_) rfl (by kernel_rfl) (by kernel_rfl) (by kernel_rfl) (fun _ _ _ h => h) (.inl ⟨by rfl, ?_⟩) (by assumption) ?_
                rotate_left
                · intro w hSw; (try dsimp only at hSw); go_simp; try (with_reducible rfl)
                try simp only [Act.put, List.setIfInBounds_toArray, List.set_cons_zero, List.set_cons_succ]
                refine wpAnyH_take (i := 13) (oi := { dst := some 77, op := Op.fieldAddr 30 (Operand.tmp 1) 2, type := 0, pos := "ref.go:26", after := #[{ on := 11, ground := Ground.guard }], guard := some (11, true) }) (v := ?_) rfl (by kernel_rfl) (by kernel_rfl) (by kernel_rfl) (fun _ _ _ h => h) (.inl ⟨by rfl, ?_⟩) (by assumption) ?_
                rotate_left
                · intro w hSw; (try dsimp only at hSw); go_simp; try (with_reducible rfl)
                try simp only [Act.put, List.setIfInBounds_toArray, List.set_cons_zero, List.set_cons_succ]
                refine wpAnyH_take (i := 14) (oi := { dst := some 78, op := Op.load 27 (Operand.tmp 77), type := 27, pos := "ref.go:26", after := #[{ on := 13, ground := Ground.data }, { on := 11, ground := Ground.guard }], guard := some (11, true) }) (v := ?_) rfl (by kernel_rfl) (by kernel_rfl) (by kernel_rfl) (fun _ _ _ h => h) (.inl ⟨by rfl, ?_⟩) (by assumption) ?_
                rotate_left
                · intro w hSw; (try dsimp only at hSw); go_simp; try (with_reducible rfl)
                try simp only [Act.put, List.setIfInBounds_toArray, List.set_cons_zero, List.set_cons_succ]
                refine wpAnyH_take (i := 15) (oi := { dst := some 79, op := Op.move (Operand.tmp 6), type := 3, pos := "ref.go:26", after := #[{ on := 11, ground := Ground.guard }], guard := some (11, true) }) (v := ?_) rfl (by kernel_rfl) (by kernel_rfl) (by kernel_rfl) (fun _ _ _ h => h) (.inl ⟨by rfl, ?_⟩) (by assumption) ?_
                rotate_left
                · intro w hSw; (try dsimp only at hSw); go_simp; try (with_reducible rfl)
                try simp only [Act.put, List.setIfInBounds_toArray, List.set_cons_zero, List.set_cons_succ]
                refine wpAnyH_take (i := 16) (oi := { dst := some 80, op := Op.indexAddr 27 (Operand.tmp 78) (Operand.tmp 79), type := 0, pos := "ref.go:26", after := #[{ on := 14, ground := Ground.data }, { on := 15, ground := Ground.data }, { on := 11, ground := Ground.guard }], guard := some (11, true) }) (v := ?_) rfl (by kernel_rfl) (by kernel_rfl) (by kernel_rfl) (fun _ _ _ h => h) (.inl ⟨by rfl, ?_⟩) (by assumption) ?_
                rotate_left
                · intro w hSw; (try dsimp only at hSw); go_simp; try (with_reducible rfl)
                try simp only [Act.put, List.setIfInBounds_toArray, List.set_cons_zero, List.set_cons_succ]
                refine wpAnyH_take (i := 17) (oi := { dst := some 81, op := Op.indexAddr 64 (Operand.tmp 80) (Operand.const (Value.int IntKind.i64 1)), type := 0, pos := "ref.go:26", after := #[{ on := 16, ground := Ground.data }, { on := 11, ground := Ground.guard }], guard := some (11, true) }) (v := ?_) rfl (by kernel_rfl) (by kernel_rfl) (by kernel_rfl) (fun _ _ _ h => h) (.inl ⟨by rfl, ?_⟩) (by assumption) ?_
                rotate_left
                · intro w hSw; (try dsimp only at hSw); go_simp; try (with_reducible rfl)
                try simp only [Act.put, List.setIfInBounds_toArray, List.set_cons_zero, List.set_cons_succ]
                refine wpAnyH_take (i := 18) (oi := { dst := some 82, op := Op.load 3 (Operand.tmp 81), type := 3, pos := "ref.go:26", after := #[{ on := 17, ground := Ground.data }, { on := 11, ground := Ground.guard }], guard := some (11, true) }) (v := ?_) rfl (by kernel_rfl) (by kernel_rfl) (by kernel_rfl) (fun _ _ _ h => h) (.inl ⟨by rfl, ?_⟩) (by assumption) ?_
                rotate_left
                · intro w hSw; (try dsimp only at hSw); go_simp; try (with_reducible rfl)
                try simp only [Act.put, List.setIfInBounds_toArray, List.set_cons_zero, List.set_cons_succ]
                refine wpAnyH_ready (rs := [19]) (by kernel_rfl) (by simp) ?_
                refine AllReadyH.cons (o := { dst := some 83, op := Op.call { callee := Callee.value (Operand.func 32), args := #[Operand.tmp 76, Operand.tmp 82], argTypes := #[30, 3] }, type := 4, pos := "ref.go:26", after := #[{ on := 12, ground := Ground.data }, { on := 18, ground := Ground.data }, { on := 11, ground := Ground.chain }, { on := 11, ground := Ground.guard }], guard := some (11, true) }) rfl (fun K hK => ?_) AllReadyH.nil
                go_simp
                go_at_call 32
                refine (is_any t.unlike[m].2).mono ?_
                rintro e w3 ⟨rfl, hq⟩
                have hq3 := held_step (wr := wr) hHeld hq
                rw [show decide (0 ≤ t.unlike[m].2 ∧ t.unlike[m].2 < t.cloth.crosses.length) = false from HI2.out]
                refine hK.out _ _ (by assumption) (fun hHeld => ?_)
                clear hK K
                try simp only [Act.put, List.setIfInBounds_toArray, List.set_cons_zero, List.set_cons_succ]
                refine wpAnyH_take (i := 20) (oi := { dst := some 84, op := Op.pick (Operand.tmp 75) (Operand.tmp 83) (Operand.const (Value.bool false)), type := 4, pos := "ref.go:26", after := #[{ on := 11, ground := Ground.data }, { on := 19, ground := Ground.data }], guard := none }) (v := ?_) rfl (by kernel_rfl) (by kernel_rfl) (by kernel_rfl) (fun _ _ _ h => h) (.inl ⟨by rfl, ?_⟩) (by assumption) ?_
                rotate_left
                · intro w hSw; (try dsimp only at hSw); go_simp; try (with_reducible rfl)
                try simp only [Act.put, List.setIfInBounds_toArray, List.set_cons_zero, List.set_cons_succ]
                refine wpAnyH_take (i := 21) (oi := { dst := some 85, op := Op.move (Operand.tmp 84), type := 4, pos := "ref.go:26", after := #[{ on := 20, ground := Ground.data }, { on := 19, ground := Ground.chain }], guard := none }) (v := ?_) rfl (by kernel_rfl) (by kernel_rfl) (by kernel_rfl) (fun _ _ _ h => h) (.inl ⟨by rfl, ?_⟩) (by assumption) ?_
                rotate_left
                · intro w hSw; (try dsimp only at hSw); go_simp; try (with_reducible rfl)
                try simp only [Act.put, List.setIfInBounds_toArray, List.set_cons_zero, List.set_cons_succ]
                refine wpAnyH_take (i := 22) (oi := { dst := some 86, op := Op.fieldAddr 30 (Operand.tmp 1) 2, type := 0, pos := "ref.go:26", after := #[{ on := 21, ground := Ground.guard }], guard := some (21, true) }) (v := undef) rfl (by kernel_rfl) (by kernel_rfl) (by kernel_rfl) (fun _ _ _ h => h) (.inr ⟨by rfl, rfl⟩) (by assumption) ?_
                try simp only [Act.put, List.setIfInBounds_toArray, List.set_cons_zero, List.set_cons_succ]
                refine wpAnyH_take (i := 23) (oi := { dst := some 87, op := Op.load 27 (Operand.tmp 86), type := 27, pos := "ref.go:26", after := #[{ on := 22, ground := Ground.data }, { on := 21, ground := Ground.guard }], guard := some (21, true) }) (v := undef) rfl (by kernel_rfl) (by kernel_rfl) (by kernel_rfl) (fun _ _ _ h => h) (.inr ⟨by rfl, rfl⟩) (by assumption) ?_
                try simp only [Act.put, List.setIfInBounds_toArray, List.set_cons_zero, List.set_cons_succ]
                refine wpAnyH_take (i := 24) (oi := { dst := some 88, op := Op.move (Operand.tmp 6), type := 3, pos := "ref.go:26", after := #[{ on := 21, ground := Ground.guard }], guard := some (21, true) }) (v := undef) rfl (by kernel_rfl) (by kernel_rfl) (by kernel_rfl) (fun _ _ _ h => h) (.inr ⟨by rfl, rfl⟩) (by assumption) ?_
                try simp only [Act.put, List.setIfInBounds_toArray, List.set_cons_zero, List.set_cons_succ]
                refine wpAnyH_take (i := 25) (oi := { dst := some 89, op := Op.indexAddr 27 (Operand.tmp 87) (Operand.tmp 88), type := 0, pos := "ref.go:26", after := #[{ on := 23, ground := Ground.data }, { on := 24, ground := Ground.data }, { on := 21, ground := Ground.guard }], guard := some (21, true) }) (v := undef) rfl (by kernel_rfl) (by kernel_rfl) (by kernel_rfl) (fun _ _ _ h => h) (.inr ⟨by rfl, rfl⟩) (by assumption) ?_
                try simp only [Act.put, List.setIfInBounds_toArray, List.set_cons_zero, List.set_cons_succ]
                refine wpAnyH_take (i := 26) (oi := { dst := some 90, op := Op.indexAddr 64 (Operand.tmp 89) (Operand.const (Value.int IntKind.i64 0)), type := 0, pos := "ref.go:26", after := #[{ on := 25, ground := Ground.data }, { on := 21, ground := Ground.guard }], guard := some (21, true) }) (v := undef) rfl (by kernel_rfl) (by kernel_rfl) (by kernel_rfl) (fun _ _ _ h => h) (.inr ⟨by rfl, rfl⟩) (by assumption) ?_
                try simp only [Act.put, List.setIfInBounds_toArray, List.set_cons_zero, List.set_cons_succ]
                refine wpAnyH_take (i := 27) (oi := { dst := some 91, op := Op.load 3 (Operand.tmp 90), type := 3, pos := "ref.go:26", after := #[{ on := 26, ground := Ground.data }, { on := 21, ground := Ground.guard }], guard := some (21, true) }) (v := undef) rfl (by kernel_rfl) (by kernel_rfl) (by kernel_rfl) (fun _ _ _ h => h) (.inr ⟨by rfl, rfl⟩) (by assumption) ?_
                try simp only [Act.put, List.setIfInBounds_toArray, List.set_cons_zero, List.set_cons_succ]
                refine wpAnyH_take (i := 28) (oi := { dst := some 92, op := Op.fieldAddr 30 (Operand.tmp 1) 2, type := 0, pos := "ref.go:26", after := #[{ on := 21, ground := Ground.guard }], guard := some (21, true) }) (v := undef) rfl (by kernel_rfl) (by kernel_rfl) (by kernel_rfl) (fun _ _ _ h => h) (.inr ⟨by rfl, rfl⟩) (by assumption) ?_
                try simp only [Act.put, List.setIfInBounds_toArray, List.set_cons_zero, List.set_cons_succ]
                refine wpAnyH_take (i := 29) (oi := { dst := some 93, op := Op.load 27 (Operand.tmp 92), type := 27, pos := "ref.go:26", after := #[{ on := 28, ground := Ground.data }, { on := 21, ground := Ground.guard }], guard := some (21, true) }) (v := undef) rfl (by kernel_rfl) (by kernel_rfl) (by kernel_rfl) (fun _ _ _ h => h) (.inr ⟨by rfl, rfl⟩) (by assumption) ?_
                try simp only [Act.put, List.setIfInBounds_toArray, List.set_cons_zero, List.set_cons_succ]
                refine wpAnyH_take (i := 30) (oi := { dst := some 94, op := Op.move (Operand.tmp 6), type := 3, pos := "ref.go:26", after := #[{ on := 21, ground := Ground.guard }], guard := some (21, true) }) (v := undef) rfl (by kernel_rfl) (by kernel_rfl) (by kernel_rfl) (fun _ _ _ h => h) (.inr ⟨by rfl, rfl⟩) (by assumption) ?_
                try simp only [Act.put, List.setIfInBounds_toArray, List.set_cons_zero, List.set_cons_succ]
                refine wpAnyH_take (i := 31) (oi := { dst := some 95, op := Op.indexAddr 27 (Operand.tmp 93) (Operand.tmp 94), type := 0, pos := "ref.go:26", after := #[{ on := 29, ground := Ground.data }, { on := 30, ground := Ground.data }, { on := 21, ground := Ground.guard }], guard := some (21, true) }) (v := undef) rfl (by kernel_rfl) (by kernel_rfl) (by kernel_rfl) (fun _ _ _ h => h) (.inr ⟨by rfl, rfl⟩) (by assumption) ?_
                try simp only [Act.put, List.setIfInBounds_toArray, List.set_cons_zero, List.set_cons_succ]
                refine wpAnyH_take (i := 32) (oi := { dst := some 96, op := Op.indexAddr 64 (Operand.tmp 95) (Operand.const (Value.int IntKind.i64 1)), type := 0, pos := "ref.go:26", after := #[{ on := 31, ground := Ground.data }, { on := 21, ground := Ground.guard }], guard := some (21, true) }) (v := undef) rfl (by kernel_rfl) (by kernel_rfl) (by kernel_rfl) (fun _ _ _ h => h) (.inr ⟨by rfl, rfl⟩) (by assumption) ?_
                try simp only [Act.put, List.setIfInBounds_toArray, List.set_cons_zero, List.set_cons_succ]
                refine wpAnyH_take (i := 33) (oi := { dst := some 97, op := Op.load 3 (Operand.tmp 96), type := 3, pos := "ref.go:26", after := #[{ on := 32, ground := Ground.data }, { on := 21, ground := Ground.guard }], guard := some (21, true) }) (v := undef) rfl (by kernel_rfl) (by kernel_rfl) (by kernel_rfl) (fun _ _ _ h => h) (.inr ⟨by rfl, rfl⟩) (by assumption) ?_
                try simp only [Act.put, List.setIfInBounds_toArray, List.set_cons_zero, List.set_cons_succ]
                refine wpAnyH_take (i := 34) (oi := { dst := some 98, op := Op.binOp BinOp.neq 3 (Operand.tmp 91) (Operand.tmp 97) 3, type := 4, pos := "ref.go:26", after := #[{ on := 27, ground := Ground.data }, { on := 33, ground := Ground.data }, { on := 21, ground := Ground.guard }], guard := some (21, true) }) (v := undef) rfl (by kernel_rfl) (by kernel_rfl) (by kernel_rfl) (fun _ _ _ h => h) (.inr ⟨by rfl, rfl⟩) (by assumption) ?_
                try simp only [Act.put, List.setIfInBounds_toArray, List.set_cons_zero, List.set_cons_succ]
                refine wpAnyH_take (i := 35) (oi := { dst := some 99, op := Op.pick (Operand.tmp 85) (Operand.tmp 98) (Operand.const (Value.bool false)), type := 4, pos := "ref.go:26", after := #[{ on := 21, ground := Ground.data }, { on := 34, ground := Ground.data }], guard := none }) (v := ?_) rfl (by kernel_rfl) (by kernel_rfl) (by kernel_rfl) (fun _ _ _ h => h) (.inl ⟨by rfl, ?_⟩) (by assumption) ?_
                rotate_left
                · intro w hSw; (try dsimp only at hSw); go_simp; try (with_reducible rfl)
                try simp only [Act.put, List.setIfInBounds_toArray, List.set_cons_zero, List.set_cons_succ]
                refine wpAnyH_take (i := 36) (oi := { dst := some 4, op := Op.assign (Operand.tmp 99), type := 4, pos := "ref.go:26", after := #[{ on := 35, ground := Ground.data }, { on := 21, ground := Ground.chain }, { on := 0, ground := Ground.phase }, { on := 1, ground := Ground.phase }, { on := 2, ground := Ground.phase }, { on := 3, ground := Ground.phase }, { on := 4, ground := Ground.phase }, { on := 5, ground := Ground.phase }, { on := 6, ground := Ground.phase }, { on := 7, ground := Ground.phase }, { on := 8, ground := Ground.phase }, { on := 9, ground := Ground.phase }, { on := 10, ground := Ground.phase }, { on := 11, ground := Ground.phase }, { on := 12, ground := Ground.phase }, { on := 13, ground := Ground.phase }, { on := 14, ground := Ground.phase }, { on := 15, ground := Ground.phase }, { on := 16, ground := Ground.phase }, { on := 17, ground := Ground.phase }, { on := 18, ground := Ground.phase }, { on := 19, ground := Ground.phase }, { on := 20, ground := Ground.phase }, { on := 21, ground := Ground.phase }, { on := 22, ground := Ground.phase }, { on := 23, ground := Ground.phase }, { on := 24, ground := Ground.phase }, { on := 25, ground := Ground.phase }, { on := 26, ground := Ground.phase }, { on := 27, ground := Ground.phase }, { on := 28, ground := Ground.phase }, { on := 29, ground := Ground.phase }, { on := 30, ground := Ground.phase }, { on := 31, ground := Ground.phase }, { on := 32, ground := Ground.phase }, { on := 33, ground := Ground.phase }, { on := 34, ground := Ground.phase }, { on := 35, ground := Ground.phase }], guard := none }) (v := ?_) rfl (by kernel_rfl) (by kernel_rfl) (by kernel_rfl) (fun _ _ _ h => h) (.inl ⟨by rfl, ?_⟩) (by assumption) ?_
                rotate_left
                · intro w hSw; (try dsimp only at hSw); go_simp; try (with_reducible rfl)
                try simp only [Act.put, List.setIfInBounds_toArray, List.set_cons_zero, List.set_cons_succ]
                refine wpAnyH_done (by kernel_rfl) ?_ _
                refine NoPanic.normal ?_
                have hend := hbl.trans (hq3.1.mono hszr)
                clear hq2 hq hcell hHeld hq3
                go_wp2
                go_roundw
                case rel => exact ⟨m + 1, by omega, by go_num, by rw [HS.out, ← Bool.and_assoc, HG.out, HW.out]; rfl, hend⟩
                case measure => simp [intOf]; omega
              | true =>
                have HI2 := Lib.hid hi2
                clear hi2
                have HW : Hid (pairOk t.cloth.crosses.length t.unlike[m] = !decide (t.unlike[m].1 = t.unlike[m].2)) := by
                  unfold Hid pairOk; rw [HI.out, HI2.out]; rfl
                go_wp2
                refine wp_region_noPanic ?_
                refine wp_region_held_drew (S := (fun w' => Below wr.heap.size wr w' ∧ (∀ b o, b < wr.heap.size → w'.cell? ⟨b, o, none⟩ = wr.cell? ⟨b, o, none⟩))) (by kernel_rfl) ?_ (fun hHeld => ?_)
                · exact held_drew _
                refine wpAnyH_take (i := 0) (oi := { dst := some 64, op := Op.move (Operand.tmp 4), type := 4, pos := "ref.go:26", after := #[], guard := none }) (v := ?_) rfl (by kernel_rfl) (by kernel_rfl) (by kernel_rfl) (fun _ _ _ h => h) (.inl ⟨by rfl, ?_⟩) (by assumption) ?_
                rotate_left
                · intro w hSw; (try dsimp only at hSw); go_simp; try (with_reducible rfl)
                try simp only [Act.put, List.setIfInBounds_toArray, List.set_cons_zero, List.set_cons_succ]
                refine wpAnyH_take (i := 1) (oi := { dst := some 65, op := Op.move (Operand.tmp 64), type := 4, pos := "ref.go:26", after := #[{ on := 0, ground := Ground.data }], guard := none }) (v := ?_) rfl (by kernel_rfl) (by kernel_rfl) (by kernel_rfl) (fun _ _ _ h => h) (.inl ⟨by rfl, ?_⟩) (by assumption) ?_
                rotate_left
                · intro w hSw; (try dsimp only at hSw); go_simp; try (with_reducible rfl)
                try simp only [Act.put, List.setIfInBounds_toArray, List.set_cons_zero, List.set_cons_succ]
                refine wpAnyH_take (i := 2) (oi := { dst := some 66, op := Op.load 30 (Operand.tmp 1), type := 30, pos := "ref.go:26", after := #[{ on := 1, ground := Ground.guard }], guard := some (1, true) }) (v := ?_) rfl (by kernel_rfl) (by kernel_rfl) (by kernel_rfl) (fun _ _ _ h => h) (.inl ⟨by rfl, ?_⟩) (by assumption) ?_
                rotate_left
                · intro w hSw; (try dsimp only at hSw); go_simp; try (with_reducible rfl)
                try simp only [Act.put, List.setIfInBounds_toArray, List.set_cons_zero, List.set_cons_succ]
                refine wpAnyH_take (i := 3) (oi := { dst := some 67, op := Op.fieldAddr 30 (Operand.tmp 1) 2, type := 0, pos := "ref.go:26", after := #[{ on := 1, ground := Ground.guard }], guard := some (1, true) }) (v := ?_) rfl (by kernel_rfl) (by kernel_rfl) (by kernel_rfl) (fun _ _ _ h => h) (.inl ⟨by rfl, ?_⟩) (by assumption) ?_
                rotate_left
                · intro w hSw; (try dsimp only at hSw); go_simp; try (with_reducible rfl)
                try simp only [Act.put, List.setIfInBounds_toArray, List.set_cons_zero, List.set_cons_succ]
                refine wpAnyH_take (i := 4) (oi := { dst := some 68, op := Op.load 27 (Operand.tmp 67), type := 27, pos := "ref.go:26", after := #[{ on := 3, ground := Ground.data }, { on := 1, ground := Ground.guard }], guard := some (1, true) }) (v := ?_) rfl (by kernel_rfl) (by kernel_rfl) (by kernel_rfl) (fun _ _ _ h => h) (.inl ⟨by rfl, ?_⟩) (by assumption) ?_
                rotate_left
                · intro w hSw; (try dsimp only at hSw); go_simp; try (with_reducible rfl)
                try simp only [Act.put, List.setIfInBounds_toArray, List.set_cons_zero, List.set_cons_succ]
                refine wpAnyH_take (i := 5) (oi := { dst := some 69, op := Op.move (Operand.tmp 6), type := 3, pos := "ref.go:26", after := #[{ on := 1, ground := Ground.guard }], guard := some (1, true) }) (v := ?_) rfl (by kernel_rfl) (by kernel_rfl) (by kernel_rfl) (fun _ _ _ h => h) (.inl ⟨by rfl, ?_⟩) (by assumption) ?_
                rotate_left
                · intro w hSw; (try dsimp only at hSw); go_simp; try (with_reducible rfl)
                try simp only [Act.put, List.setIfInBounds_toArray, List.set_cons_zero, List.set_cons_succ]
                refine wpAnyH_take (i := 6) (oi := { dst := some 70, op := Op.indexAddr 27 (Operand.tmp 68) (Operand.tmp 69), type := 0, pos := "ref.go:26", after := #[{ on := 4, ground := Ground.data }, { on := 5, ground := Ground.data }, { on := 1, ground := Ground.guard }], guard := some (1, true) }) (v := ?_) rfl (by kernel_rfl) (by kernel_rfl) (by kernel_rfl) (fun _ _ _ h => h) (.inl ⟨by rfl, ?_⟩) (by assumption) ?_
                rotate_left
                · intro w hSw; (try dsimp only at hSw); go_simp; try (with_reducible rfl)
                try simp only [Act.put, List.setIfInBounds_toArray, List.set_cons_zero, List.set_cons_succ]
                refine wpAnyH_take (i := 7) (oi := { dst := some 71, op := Op.indexAddr 64 (Operand.tmp 70) (Operand.const (Value.int IntKind.i64 0)), type := 0, pos := "ref.go:26", after := #[{ on := 6, ground := Ground.data }, { on := 1, ground := Ground.guard }], guard := some (1, true) }) (v := ?_) rfl (by kernel_rfl) (by kernel_rfl) (by kernel_rfl) (fun _ _ _ h => h) (.inl ⟨by rfl, ?_⟩) (by assumption) ?_
                rotate_left
                · intro w hSw; (try dsimp only at hSw); go_simp; try (with_reducible rfl)
                try simp only [Act.put, List.setIfInBounds_toArray, List.set_cons_zero, List.set_cons_succ]
                refine wpAnyH_take (i := 8) (oi := { dst := some 72, op := Op.load 3 (Operand.tmp 71), type := 3, pos := "ref.go:26", after := #[{ on := 7, ground := Ground.data }, { on := 1, ground := Ground.guard }], guard := some (1, true) }) (v := ?_) rfl (by kernel_rfl) (by kernel_rfl) (by kernel_rfl) (fun _ _ _ h => h) (.inl ⟨by rfl, ?_⟩) (by assumption) ?_
                rotate_left
                · intro w hSw; (try dsimp only at hSw); go_simp; try (with_reducible rfl)
                try simp only [Act.put, List.setIfInBounds_toArray, List.set_cons_zero, List.set_cons_succ]
                refine wpAnyH_ready (rs := [9]) (by kernel_rfl) (by simp) ?_
                refine AllReadyH.cons (o := { dst := some 73, op := Op.call { callee := Callee.value (Operand.func 32), args := #[Operand.tmp 66, Operand.tmp 72], argTypes := #[30, 3] }, type := 4, pos := "ref.go:26", after := #[{ on := 2, ground := Ground.data }, { on := 8, ground := Ground.data }, { on := 1, ground := Ground.chain }, { on := 1, ground := Ground.guard }], guard := some (1, true) }) rfl (fun K hK => ?_) AllReadyH.nil
                go_simp
                go_at_call 32
                refine (is_any t.unlike[m].1).mono ?_
                rintro e w2 ⟨rfl, hq⟩
                have hq2 := held_step (wr := wr) hHeld hq
                rw [show decide (0 ≤ t.unlike[m].1 ∧ t.unlike[m].1 < t.cloth.crosses.length) = true from HI.out]
                refine hK.out _ _ (by assumption) (fun hHeld => ?_)
                clear hK K
                try simp only [Act.put, List.setIfInBounds_toArray, List.set_cons_zero, List.set_cons_succ]
                refine wpAnyH_take (i := 10) (oi := { dst := some 74, op := Op.pick (Operand.tmp 65) (Operand.tmp 73) (Operand.const (Value.bool false)), type := 4, pos := "ref.go:26", after := #[{ on := 1, ground := Ground.data }, { on := 9, ground := Ground.data }], guard := none }) (v := ?_) rfl (by kernel_rfl) (by kernel_rfl) (by kernel_rfl) (fun _ _ _ h => h) (.inl ⟨by rfl, ?_⟩) (by assumption) ?_
                rotate_left
                · intro w hSw; (try dsimp only at hSw); go_simp; try (with_reducible rfl)
                try simp only [Act.put, List.setIfInBounds_toArray, List.set_cons_zero, List.set_cons_succ]
                refine wpAnyH_take (i := 11) (oi := { dst := some 75, op := Op.move (Operand.tmp 74), type := 4, pos := "ref.go:26", after := #[{ on := 10, ground := Ground.data }, { on := 9, ground := Ground.chain }], guard := none }) (v := ?_) rfl (by kernel_rfl) (by kernel_rfl) (by kernel_rfl) (fun _ _ _ h => h) (.inl ⟨by rfl, ?_⟩) (by assumption) ?_
                rotate_left
                · intro w hSw; (try dsimp only at hSw); go_simp; try (with_reducible rfl)
                try simp only [Act.put, List.setIfInBounds_toArray, List.set_cons_zero, List.set_cons_succ]
                refine wpAnyH_take (i := 12) (oi := { dst := some 76, op := Op.load 30 (Operand.tmp 1), type := 30, pos := "ref.go:26", after := #[{ on := 11, ground := Ground.guard }], guard := some (11, true) }) (v := ?_) rfl (by kernel_rfl) (by kernel_rfl) (by kernel_rfl) (fun _ _ _ h => h) (.inl ⟨by rfl, ?_⟩) (by assumption) ?_
                rotate_left
                · intro w hSw; (try dsimp only at hSw); go_simp; try (with_reducible rfl)
                try simp only [Act.put, List.setIfInBounds_toArray, List.set_cons_zero, List.set_cons_succ]
                refine wpAnyH_take (i := 13) (oi := { dst := some 77, op := Op.fieldAddr 30 (Operand.tmp 1) 2, type := 0, pos := "ref.go:26", after := #[{ on := 11, ground := Ground.guard }], guard := some (11, true) }) (v := ?_) rfl (by kernel_rfl) (by kernel_rfl) (by kernel_rfl) (fun _ _ _ h => h) (.inl ⟨by rfl, ?_⟩) (by assumption) ?_
                rotate_left
                · intro w hSw; (try dsimp only at hSw); go_simp; try (with_reducible rfl)
                try simp only [Act.put, List.setIfInBounds_toArray, List.set_cons_zero, List.set_cons_succ]
                refine wpAnyH_take (i := 14) (oi := { dst := some 78, op := Op.load 27 (Operand.tmp 77), type := 27, pos := "ref.go:26", after := #[{ on := 13, ground := Ground.data }, { on := 11, ground := Ground.guard }], guard := some (11, true) }) (v := ?_) rfl (by kernel_rfl) (by kernel_rfl) (by kernel_rfl) (fun _ _ _ h => h) (.inl ⟨by rfl, ?_⟩) (by assumption) ?_
                rotate_left
                · intro w hSw; (try dsimp only at hSw); go_simp; try (with_reducible rfl)
                try simp only [Act.put, List.setIfInBounds_toArray, List.set_cons_zero, List.set_cons_succ]
                refine wpAnyH_take (i := 15) (oi := { dst := some 79, op := Op.move (Operand.tmp 6), type := 3, pos := "ref.go:26", after := #[{ on := 11, ground := Ground.guard }], guard := some (11, true) }) (v := ?_) rfl (by kernel_rfl) (by kernel_rfl) (by kernel_rfl) (fun _ _ _ h => h) (.inl ⟨by rfl, ?_⟩) (by assumption) ?_
                rotate_left
                · intro w hSw; (try dsimp only at hSw); go_simp; try (with_reducible rfl)
                try simp only [Act.put, List.setIfInBounds_toArray, List.set_cons_zero, List.set_cons_succ]
                refine wpAnyH_take (i := 16) (oi := { dst := some 80, op := Op.indexAddr 27 (Operand.tmp 78) (Operand.tmp 79), type := 0, pos := "ref.go:26", after := #[{ on := 14, ground := Ground.data }, { on := 15, ground := Ground.data }, { on := 11, ground := Ground.guard }], guard := some (11, true) }) (v := ?_) rfl (by kernel_rfl) (by kernel_rfl) (by kernel_rfl) (fun _ _ _ h => h) (.inl ⟨by rfl, ?_⟩) (by assumption) ?_
                rotate_left
                · intro w hSw; (try dsimp only at hSw); go_simp; try (with_reducible rfl)
                try simp only [Act.put, List.setIfInBounds_toArray, List.set_cons_zero, List.set_cons_succ]
                refine wpAnyH_take (i := 17) (oi := { dst := some 81, op := Op.indexAddr 64 (Operand.tmp 80) (Operand.const (Value.int IntKind.i64 1)), type := 0, pos := "ref.go:26", after := #[{ on := 16, ground := Ground.data }, { on := 11, ground := Ground.guard }], guard := some (11, true) }) (v := ?_) rfl (by kernel_rfl) (by kernel_rfl) (by kernel_rfl) (fun _ _ _ h => h) (.inl ⟨by rfl, ?_⟩) (by assumption) ?_
                rotate_left
                · intro w hSw; (try dsimp only at hSw); go_simp; try (with_reducible rfl)
                try simp only [Act.put, List.setIfInBounds_toArray, List.set_cons_zero, List.set_cons_succ]
                refine wpAnyH_take (i := 18) (oi := { dst := some 82, op := Op.load 3 (Operand.tmp 81), type := 3, pos := "ref.go:26", after := #[{ on := 17, ground := Ground.data }, { on := 11, ground := Ground.guard }], guard := some (11, true) }) (v := ?_) rfl (by kernel_rfl) (by kernel_rfl) (by kernel_rfl) (fun _ _ _ h => h) (.inl ⟨by rfl, ?_⟩) (by assumption) ?_
                rotate_left
                · intro w hSw; (try dsimp only at hSw); go_simp; try (with_reducible rfl)
                try simp only [Act.put, List.setIfInBounds_toArray, List.set_cons_zero, List.set_cons_succ]
                refine wpAnyH_ready (rs := [19]) (by kernel_rfl) (by simp) ?_
                refine AllReadyH.cons (o := { dst := some 83, op := Op.call { callee := Callee.value (Operand.func 32), args := #[Operand.tmp 76, Operand.tmp 82], argTypes := #[30, 3] }, type := 4, pos := "ref.go:26", after := #[{ on := 12, ground := Ground.data }, { on := 18, ground := Ground.data }, { on := 11, ground := Ground.chain }, { on := 11, ground := Ground.guard }], guard := some (11, true) }) rfl (fun K hK => ?_) AllReadyH.nil
                go_simp
                go_at_call 32
                refine (is_any t.unlike[m].2).mono ?_
                rintro e w3 ⟨rfl, hq⟩
                have hq3 := held_step (wr := wr) hHeld hq
                rw [show decide (0 ≤ t.unlike[m].2 ∧ t.unlike[m].2 < t.cloth.crosses.length) = true from HI2.out]
                refine hK.out _ _ (by assumption) (fun hHeld => ?_)
                clear hK K
                try simp only [Act.put, List.setIfInBounds_toArray, List.set_cons_zero, List.set_cons_succ]
                refine wpAnyH_take (i := 20) (oi := { dst := some 84, op := Op.pick (Operand.tmp 75) (Operand.tmp 83) (Operand.const (Value.bool false)), type := 4, pos := "ref.go:26", after := #[{ on := 11, ground := Ground.data }, { on := 19, ground := Ground.data }], guard := none }) (v := ?_) rfl (by kernel_rfl) (by kernel_rfl) (by kernel_rfl) (fun _ _ _ h => h) (.inl ⟨by rfl, ?_⟩) (by assumption) ?_
                rotate_left
                · intro w hSw; (try dsimp only at hSw); go_simp; try (with_reducible rfl)
                try simp only [Act.put, List.setIfInBounds_toArray, List.set_cons_zero, List.set_cons_succ]
                refine wpAnyH_take (i := 21) (oi := { dst := some 85, op := Op.move (Operand.tmp 84), type := 4, pos := "ref.go:26", after := #[{ on := 20, ground := Ground.data }, { on := 19, ground := Ground.chain }], guard := none }) (v := ?_) rfl (by kernel_rfl) (by kernel_rfl) (by kernel_rfl) (fun _ _ _ h => h) (.inl ⟨by rfl, ?_⟩) (by assumption) ?_
                rotate_left
                · intro w hSw; (try dsimp only at hSw); go_simp; try (with_reducible rfl)
                try simp only [Act.put, List.setIfInBounds_toArray, List.set_cons_zero, List.set_cons_succ]
                refine wpAnyH_take (i := 22) (oi := { dst := some 86, op := Op.fieldAddr 30 (Operand.tmp 1) 2, type := 0, pos := "ref.go:26", after := #[{ on := 21, ground := Ground.guard }], guard := some (21, true) }) (v := ?_) rfl (by kernel_rfl) (by kernel_rfl) (by kernel_rfl) (fun _ _ _ h => h) (.inl ⟨by rfl, ?_⟩) (by assumption) ?_
                rotate_left
                · intro w hSw; (try dsimp only at hSw); go_simp; try (with_reducible rfl)
                try simp only [Act.put, List.setIfInBounds_toArray, List.set_cons_zero, List.set_cons_succ]
                refine wpAnyH_take (i := 23) (oi := { dst := some 87, op := Op.load 27 (Operand.tmp 86), type := 27, pos := "ref.go:26", after := #[{ on := 22, ground := Ground.data }, { on := 21, ground := Ground.guard }], guard := some (21, true) }) (v := ?_) rfl (by kernel_rfl) (by kernel_rfl) (by kernel_rfl) (fun _ _ _ h => h) (.inl ⟨by rfl, ?_⟩) (by assumption) ?_
                rotate_left
                · intro w hSw; (try dsimp only at hSw); go_simp; try (with_reducible rfl)
                try simp only [Act.put, List.setIfInBounds_toArray, List.set_cons_zero, List.set_cons_succ]
                refine wpAnyH_take (i := 24) (oi := { dst := some 88, op := Op.move (Operand.tmp 6), type := 3, pos := "ref.go:26", after := #[{ on := 21, ground := Ground.guard }], guard := some (21, true) }) (v := ?_) rfl (by kernel_rfl) (by kernel_rfl) (by kernel_rfl) (fun _ _ _ h => h) (.inl ⟨by rfl, ?_⟩) (by assumption) ?_
                rotate_left
                · intro w hSw; (try dsimp only at hSw); go_simp; try (with_reducible rfl)
                try simp only [Act.put, List.setIfInBounds_toArray, List.set_cons_zero, List.set_cons_succ]
                refine wpAnyH_take (i := 25) (oi := { dst := some 89, op := Op.indexAddr 27 (Operand.tmp 87) (Operand.tmp 88), type := 0, pos := "ref.go:26", after := #[{ on := 23, ground := Ground.data }, { on := 24, ground := Ground.data }, { on := 21, ground := Ground.guard }], guard := some (21, true) }) (v := ?_) rfl (by kernel_rfl) (by kernel_rfl) (by kernel_rfl) (fun _ _ _ h => h) (.inl ⟨by rfl, ?_⟩) (by assumption) ?_
                rotate_left
                · intro w hSw; (try dsimp only at hSw); go_simp; try (with_reducible rfl)
                try simp only [Act.put, List.setIfInBounds_toArray, List.set_cons_zero, List.set_cons_succ]
                refine wpAnyH_take (i := 26) (oi := { dst := some 90, op := Op.indexAddr 64 (Operand.tmp 89) (Operand.const (Value.int IntKind.i64 0)), type := 0, pos := "ref.go:26", after := #[{ on := 25, ground := Ground.data }, { on := 21, ground := Ground.guard }], guard := some (21, true) }) (v := ?_) rfl (by kernel_rfl) (by kernel_rfl) (by kernel_rfl) (fun _ _ _ h => h) (.inl ⟨by rfl, ?_⟩) (by assumption) ?_
                rotate_left
                · intro w hSw; (try dsimp only at hSw); go_simp; try (with_reducible rfl)
                try simp only [Act.put, List.setIfInBounds_toArray, List.set_cons_zero, List.set_cons_succ]
                refine wpAnyH_take (i := 27) (oi := { dst := some 91, op := Op.load 3 (Operand.tmp 90), type := 3, pos := "ref.go:26", after := #[{ on := 26, ground := Ground.data }, { on := 21, ground := Ground.guard }], guard := some (21, true) }) (v := ?_) rfl (by kernel_rfl) (by kernel_rfl) (by kernel_rfl) (fun _ _ _ h => h) (.inl ⟨by rfl, ?_⟩) (by assumption) ?_
                rotate_left
                · intro w hSw; (try dsimp only at hSw); go_simp; try (with_reducible rfl)
                try simp only [Act.put, List.setIfInBounds_toArray, List.set_cons_zero, List.set_cons_succ]
                refine wpAnyH_take (i := 28) (oi := { dst := some 92, op := Op.fieldAddr 30 (Operand.tmp 1) 2, type := 0, pos := "ref.go:26", after := #[{ on := 21, ground := Ground.guard }], guard := some (21, true) }) (v := ?_) rfl (by kernel_rfl) (by kernel_rfl) (by kernel_rfl) (fun _ _ _ h => h) (.inl ⟨by rfl, ?_⟩) (by assumption) ?_
                rotate_left
                · intro w hSw; (try dsimp only at hSw); go_simp; try (with_reducible rfl)
                try simp only [Act.put, List.setIfInBounds_toArray, List.set_cons_zero, List.set_cons_succ]
                refine wpAnyH_take (i := 29) (oi := { dst := some 93, op := Op.load 27 (Operand.tmp 92), type := 27, pos := "ref.go:26", after := #[{ on := 28, ground := Ground.data }, { on := 21, ground := Ground.guard }], guard := some (21, true) }) (v := ?_) rfl (by kernel_rfl) (by kernel_rfl) (by kernel_rfl) (fun _ _ _ h => h) (.inl ⟨by rfl, ?_⟩) (by assumption) ?_
                rotate_left
                · intro w hSw; (try dsimp only at hSw); go_simp; try (with_reducible rfl)
                try simp only [Act.put, List.setIfInBounds_toArray, List.set_cons_zero, List.set_cons_succ]
                refine wpAnyH_take (i := 30) (oi := { dst := some 94, op := Op.move (Operand.tmp 6), type := 3, pos := "ref.go:26", after := #[{ on := 21, ground := Ground.guard }], guard := some (21, true) }) (v := ?_) rfl (by kernel_rfl) (by kernel_rfl) (by kernel_rfl) (fun _ _ _ h => h) (.inl ⟨by rfl, ?_⟩) (by assumption) ?_
                rotate_left
                · intro w hSw; (try dsimp only at hSw); go_simp; try (with_reducible rfl)
                try simp only [Act.put, List.setIfInBounds_toArray, List.set_cons_zero, List.set_cons_succ]
                refine wpAnyH_take (i := 31) (oi := { dst := some 95, op := Op.indexAddr 27 (Operand.tmp 93) (Operand.tmp 94), type := 0, pos := "ref.go:26", after := #[{ on := 29, ground := Ground.data }, { on := 30, ground := Ground.data }, { on := 21, ground := Ground.guard }], guard := some (21, true) }) (v := ?_) rfl (by kernel_rfl) (by kernel_rfl) (by kernel_rfl) (fun _ _ _ h => h) (.inl ⟨by rfl, ?_⟩) (by assumption) ?_
                rotate_left
                · intro w hSw; (try dsimp only at hSw); go_simp; try (with_reducible rfl)
                try simp only [Act.put, List.setIfInBounds_toArray, List.set_cons_zero, List.set_cons_succ]
                refine wpAnyH_take (i := 32) (oi := { dst := some 96, op := Op.indexAddr 64 (Operand.tmp 95) (Operand.const (Value.int IntKind.i64 1)), type := 0, pos := "ref.go:26", after := #[{ on := 31, ground := Ground.data }, { on := 21, ground := Ground.guard }], guard := some (21, true) }) (v := ?_) rfl (by kernel_rfl) (by kernel_rfl) (by kernel_rfl) (fun _ _ _ h => h) (.inl ⟨by rfl, ?_⟩) (by assumption) ?_
                rotate_left
                · intro w hSw; (try dsimp only at hSw); go_simp; try (with_reducible rfl)
                try simp only [Act.put, List.setIfInBounds_toArray, List.set_cons_zero, List.set_cons_succ]
                refine wpAnyH_take (i := 33) (oi := { dst := some 97, op := Op.load 3 (Operand.tmp 96), type := 3, pos := "ref.go:26", after := #[{ on := 32, ground := Ground.data }, { on := 21, ground := Ground.guard }], guard := some (21, true) }) (v := ?_) rfl (by kernel_rfl) (by kernel_rfl) (by kernel_rfl) (fun _ _ _ h => h) (.inl ⟨by rfl, ?_⟩) (by assumption) ?_
                rotate_left
                · intro w hSw; (try dsimp only at hSw); go_simp; try (with_reducible rfl)
                try simp only [Act.put, List.setIfInBounds_toArray, List.set_cons_zero, List.set_cons_succ]
                refine wpAnyH_take (i := 34) (oi := { dst := some 98, op := Op.binOp BinOp.neq 3 (Operand.tmp 91) (Operand.tmp 97) 3, type := 4, pos := "ref.go:26", after := #[{ on := 27, ground := Ground.data }, { on := 33, ground := Ground.data }, { on := 21, ground := Ground.guard }], guard := some (21, true) }) (v := ?_) rfl (by kernel_rfl) (by kernel_rfl) (by kernel_rfl) (fun _ _ _ h => h) (.inl ⟨by rfl, ?_⟩) (by assumption) ?_
                rotate_left
                · intro w hSw; (try dsimp only at hSw); go_simp; try (with_reducible rfl)
                try simp only [Act.put, List.setIfInBounds_toArray, List.set_cons_zero, List.set_cons_succ]
                refine wpAnyH_take (i := 35) (oi := { dst := some 99, op := Op.pick (Operand.tmp 85) (Operand.tmp 98) (Operand.const (Value.bool false)), type := 4, pos := "ref.go:26", after := #[{ on := 21, ground := Ground.data }, { on := 34, ground := Ground.data }], guard := none }) (v := ?_) rfl (by kernel_rfl) (by kernel_rfl) (by kernel_rfl) (fun _ _ _ h => h) (.inl ⟨by rfl, ?_⟩) (by assumption) ?_
                rotate_left
                · intro w hSw; (try dsimp only at hSw); go_simp; try (with_reducible rfl)
                try simp only [Act.put, List.setIfInBounds_toArray, List.set_cons_zero, List.set_cons_succ]
                refine wpAnyH_take (i := 36) (oi := { dst := some 4, op := Op.assign (Operand.tmp 99), type := 4, pos := "ref.go:26", after := #[{ on := 35, ground := Ground.data }, { on := 21, ground := Ground.chain }, { on := 0, ground := Ground.phase }, { on := 1, ground := Ground.phase }, { on := 2, ground := Ground.phase }, { on := 3, ground := Ground.phase }, { on := 4, ground := Ground.phase }, { on := 5, ground := Ground.phase }, { on := 6, ground := Ground.phase }, { on := 7, ground := Ground.phase }, { on := 8, ground := Ground.phase }, { on := 9, ground := Ground.phase }, { on := 10, ground := Ground.phase }, { on := 11, ground := Ground.phase }, { on := 12, ground := Ground.phase }, { on := 13, ground := Ground.phase }, { on := 14, ground := Ground.phase }, { on := 15, ground := Ground.phase }, { on := 16, ground := Ground.phase }, { on := 17, ground := Ground.phase }, { on := 18, ground := Ground.phase }, { on := 19, ground := Ground.phase }, { on := 20, ground := Ground.phase }, { on := 21, ground := Ground.phase }, { on := 22, ground := Ground.phase }, { on := 23, ground := Ground.phase }, { on := 24, ground := Ground.phase }, { on := 25, ground := Ground.phase }, { on := 26, ground := Ground.phase }, { on := 27, ground := Ground.phase }, { on := 28, ground := Ground.phase }, { on := 29, ground := Ground.phase }, { on := 30, ground := Ground.phase }, { on := 31, ground := Ground.phase }, { on := 32, ground := Ground.phase }, { on := 33, ground := Ground.phase }, { on := 34, ground := Ground.phase }, { on := 35, ground := Ground.phase }], guard := none }) (v := ?_) rfl (by kernel_rfl) (by kernel_rfl) (by kernel_rfl) (fun _ _ _ h => h) (.inl ⟨by rfl, ?_⟩) (by assumption) ?_
                rotate_left
                · intro w hSw; (try dsimp only at hSw); go_simp; try (with_reducible rfl)
                try simp only [Act.put, List.setIfInBounds_toArray, List.set_cons_zero, List.set_cons_succ]
                refine wpAnyH_done (by kernel_rfl) ?_ _
                refine NoPanic.normal ?_
                have hend := hbl.trans (hq3.1.mono hszr)
                clear hq2 hq hcell hHeld hq3
                go_wp2
                go_roundw
                case rel => exact ⟨m + 1, by omega, by go_num, by rw [HS.out, ← Bool.and_assoc, HG.out, HW.out]; simp [bne]; rw [Bool.eq_iff_iff]; simp, hend⟩
                case measure => simp [intOf]; omega
        · obtain rfl : m = t.unlike.length := by omega
          rw [List.take_length]
          generalize hg2 : (g1 && t.unlike.all (pairOk t.cloth.crosses.length)) = g2
          have HG2 := Lib.hid hg2
          clear hg2
          go_wp2
          clear hcell
          go_loopw [4, 7] (fun g i wr => ∃ m : Nat, m ≤ 6 ∧ i = .int .i64 m ∧ g = .bool (g2 && (List.range m).all (fun (c : Nat) => decide (0 ≤ t.supply[c]?.getD 0) && decide (t.supply[c]?.getD 0 ≤ 100))) ∧ Below (w.heap.size + 1) (w.alloc (.cells #[.int .i64 t.cloth.threads, .slice cA t.cloth.crosses.length cc, .slice pA t.cloth.pins.length pc, .slice wA t.wishes.length wc, .slice uA t.unlike.length uc,
      .int .i64 t.s0, .int .i64 t.s1, .int .i64 t.s2, .int .i64 t.s3, .int .i64 t.s4, .int .i64 t.s5] 30)) wr) (fun _ i _ => 6 - (intOf i).toNat)
          case atStart => exact ⟨0, by omega, rfl, by simp, hbl⟩
          case round =>
            clear hbl hszr
            obtain ⟨m, hm, rfl, rfl, hbl⟩ := hrel
            obtain ⟨hcell, _⟩ := bcell hbl
            by_cases hml : m < 6
            · have HS := Lib.hid (all_range_succ (f := fun (c : Nat) => decide (0 ≤ t.supply[c]?.getD 0) && decide (t.supply[c]?.getD 0 ≤ 100)) (k := m))
              have hsup := box_supply (w := w) (a := .int .i64 t.cloth.threads) (b := .slice cA t.cloth.crosses.length cc) (c := .slice pA t.cloth.pins.length pc) (d := .slice wA t.wishes.length wc) (e := .slice uA t.unlike.length uc) t m hml
              cases hg : g2 && (List.range m).all (fun (c : Nat) => decide (0 ≤ t.supply[c]?.getD 0) && decide (t.supply[c]?.getD 0 ≤ 100)) with
              | false =>
                have HG := Lib.hid hg
                clear hg
                go_wp2
                go_roundw
                case rel => exact ⟨m + 1, by omega, by go_num, by rw [HS.out, ← Bool.and_assoc, HG.out]; rfl, hbl⟩
                case measure => simp [intOf]; omega
              | true =>
                have HG := Lib.hid hg
                clear hg
                generalize hv : t.supply[m]?.getD 0 = v at *
                have HV := Lib.hid hv
                clear hv
                by_cases c1 : 0 ≤ v
                · by_cases c2 : v ≤ 100
                  all_goals
                    go_wp2
                    go_roundw
                    case rel => exact ⟨m + 1, by omega, by go_num, by rw [HS.out, ← Bool.and_assoc, HG.out]; simp [HV.out, c1, c2], hbl⟩
                    case measure => simp [intOf]; omega
                · go_wp2
                  go_roundw
                  case rel => exact ⟨m + 1, by omega, by go_num, by rw [HS.out, ← Bool.and_assoc, HG.out]; simp [HV.out]; omega, hbl⟩
                  case measure => simp [intOf]; omega
            · obtain rfl : m = 6 := by omega
              have hgood : Hid ((g2 && (List.range 6).all (fun (c : Nat) => decide (0 ≤ t.supply[c]?.getD 0) && decide (t.supply[c]?.getD 0 ≤ 100))) = goodB t) := by
                unfold Hid goodB supplyOk
                rw [← HG2.out, ← HG1.out]
              rw [hgood.out]
              cases hq : goodB t with
              | true =>
                have HQ := Lib.hid hq
                clear hq
                go_wp2
                go_ret
                exact ⟨by rw [HQ.out]; rfl, (below_box _).trans (hbl.mono (by omega))⟩
              | false =>
                have HQ := Lib.hid hq
                clear hq
                go_wp2
                go_ret
                exact ⟨by rw [HQ.out]; rfl, (below_box _).trans (hbl.mono (by omega))⟩

set_option maxHeartbeats 1000000 in
theorem reftask_any {w : World} {cA : Option Addr} {cc : Nat} {pA : Option Addr} {pc : Nat} {wA : Option Addr} {wc : Nat} {uA : Option Addr} {uc : Nat} {t : Task} (h : TaskRd w cA cc pA pc wA wc uA uc t) :
    Calls Tryd.prog 16 #[taskVal cA cc pA pc wA wc uA uc t] w fun e w' => e = .returned (.int .i64 (taskB t)) ∧ Below w.heap.size w w' := by
  have hT1 := h.below (below_box (.cells #[.int .i64 t.cloth.threads, .slice cA t.cloth.crosses.length cc, .slice pA t.cloth.pins.length pc, .slice wA t.wishes.length wc, .slice uA t.unlike.length uc,
      .int .i64 t.s0, .int .i64 t.s1, .int .i64 t.s2, .int .i64 t.s3, .int .i64 t.s4, .int .i64 t.s5] 30))
  have hcl := h.cloth.clen
  have hcm := h.cloth.ccap
  have hwl := h.wlen
  have hwm := h.wcap
  have hul := h.ulen
  have hum := h.ucap
  unfold maxLen at hcm hwm hum
  have hth := h.wf.cloth.threads
  unfold I64 at hth
  by_cases h0 : clothB t.cloth = 0
  · by_cases h1 : 16 < t.cloth.threads
    · have hf := Lib.hid (show taskB t = 3 by unfold taskB; rw [if_neg (by simp [h0]), if_pos (by omega)])
      have H0 := Lib.hid h0
      clear h0
      go_enter Tryd.func16, Tryd.ntmps16
      go_wp2_with fail
      refine (refcloth_any hT1.cloth).mono ?_
      rintro e w1 ⟨rfl, hb1⟩
      rw [H0.out]
      simp only [World.size_alloc] at hb1
      obtain ⟨hcell, _⟩ := bcell hb1
      go_wp2_with fail
      go_ret
      exact ⟨by rw [hf.out]; rfl, (below_box _).trans (hb1.mono (by omega))⟩
    by_cases h2 : 100 < t.wishes.length
    · have hf := Lib.hid (show taskB t = 3 by unfold taskB; rw [if_neg (by simp [h0]), if_pos (by omega)])
      have H0 := Lib.hid h0
      clear h0
      go_enter Tryd.func16, Tryd.ntmps16
      go_wp2_with fail
      refine (refcloth_any hT1.cloth).mono ?_
      rintro e w1 ⟨rfl, hb1⟩
      rw [H0.out]
      simp only [World.size_alloc] at hb1
      obtain ⟨hcell, _⟩ := bcell hb1
      go_wp2_with fail
      go_ret
      exact ⟨by rw [hf.out]; rfl, (below_box _).trans (hb1.mono (by omega))⟩
    by_cases h3 : 100 < t.unlike.length
    · have hf := Lib.hid (show taskB t = 3 by unfold taskB; rw [if_neg (by simp [h0]), if_pos (by omega)])
      have H0 := Lib.hid h0
      clear h0
      go_enter Tryd.func16, Tryd.ntmps16
      go_wp2_with fail
      refine (refcloth_any hT1.cloth).mono ?_
      rintro e w1 ⟨rfl, hb1⟩
      rw [H0.out]
      simp only [World.size_alloc] at hb1
      obtain ⟨hcell, _⟩ := bcell hb1
      go_wp2_with fail
      go_ret
      exact ⟨by rw [hf.out]; rfl, (below_box _).trans (hb1.mono (by omega))⟩
    have hf : taskB t = goodE (goodB t) := by unfold taskB goodE; rw [if_neg (by simp [h0]), if_neg (by omega)]
    rw [hf]
    exact reftask_good h h0 (by omega) (by omega) (by omega)
  · have hf := Lib.hid (show taskB t = clothB t.cloth by unfold taskB; rw [if_pos h0])
    have hne : (clothB t.cloth != 0) = true := by simp [h0]
    clear h0
    go_enter Tryd.func16, Tryd.ntmps16
    go_wp2_with fail
    refine (refcloth_any hT1.cloth).mono ?_
    rintro e w1 ⟨rfl, hb1⟩
    simp only [World.size_alloc] at hb1
    go_wp2_with fail
    go_ret
    exact ⟨by rw [hf.out]; rfl, (below_box _).trans (hb1.mono (by omega))⟩
end Go.Proofs.YtegbbkmppphddaaDoor
/- A valid task; what a search returns. -/
namespace Go.Proofs.YtegbbkmppphddaaDoor

theorem swapL_all {p : Int → Prop} {l : List Int} (h : ∀ x ∈ l, p x) {k : Nat} (hk : k + 1 < l.length) : ∀ x ∈ swapL l k, p x := by
  have h0 : ∀ j, j < l.length → p (l.getD j 0) := fun j hj => by
    rw [List.getD_eq_getElem?_getD, List.getElem?_eq_getElem hj]; exact h _ (List.getElem_mem hj)
  intro x hx
  rcases List.mem_or_eq_of_mem_set hx with hx | rfl
  · rcases List.mem_or_eq_of_mem_set hx with hx | rfl
    · exact h x hx
    · exact h0 _ hk
  · exact h0 _ (by omega)
theorem ends_over {p : Int → Prop} : ∀ (cs : List Cross) (l : List Int), (∀ x ∈ l, p x) → (∀ x ∈ cs, 0 ≤ x.at_ ∧ x.at_ + 1 < l.length) → (endsB l cs).isSome = true → ∀ x ∈ cs, p x.over ∧ p x.under
  | [], _, _, _, _ => fun _ h => by cases h
  | c :: r, l, hl, hr, he => by
    have hc := hr c (List.mem_cons_self ..)
    unfold endsB at he
    have h0 : ∀ j, j < l.length → p (l.getD j 0) := fun j hj => by
      rw [List.getD_eq_getElem?_getD, List.getElem?_eq_getElem hj]; exact hl _ (List.getElem_mem hj)
    have ha := h0 c.at_.toNat (by omega)
    have hb := h0 (c.at_.toNat + 1) (by omega)
    split at he
    · rename_i hm
      intro x hx
      rcases List.mem_cons.1 hx with rfl | hx
      · unfold meetB at hm
        simp only [Bool.or_eq_true, Bool.and_eq_true, decide_eq_true_eq] at hm
        rcases hm with ⟨h1, h2⟩ | ⟨h1, h2⟩
        · rw [← h1, ← h2]; exact ⟨ha, hb⟩
        · rw [← h1, ← h2]; exact ⟨hb, ha⟩
      · exact ends_over r (swapL l c.at_.toNat) (swapL_all hl (by omega)) (fun y hy => by rw [swapL_length]; exact hr y (List.mem_cons_of_mem _ hy)) he x hx
    · cases he

theorem clothB_ok {c : Cloth} (h : clothB c = 0) : c.threads ≤ 48 ∧ numbersB c = true ∧ (endsB (iota c.threads.toNat) c.crosses).isSome = true := by
  unfold clothB at h
  split at h
  · omega
  · split at h
    · omega
    · rename_i h1 h2
      split at h
      · rename_i h3
        exact ⟨by omega, by simpa using h2, h3⟩
      · omega
theorem numbers_two {c : Cloth} (h : numbersB c = true) : 2 ≤ c.threads := by
  unfold numbersB at h
  simp only [Bool.and_eq_true, decide_eq_true_eq] at h
  omega
theorem numbers_all {c : Cloth} (h : numbersB c = true) : ∀ x ∈ c.crosses, 0 ≤ x.at_ ∧ x.at_ ≤ c.threads - 2 ∧ 0 ≤ x.work := by
  unfold numbersB at h
  simp only [Bool.and_eq_true, List.all_eq_true] at h
  intro x hx
  have := h.1.2 x hx
  simpa [crossOk, and_assoc] using this
theorem cloth_over {c : Cloth} (h : clothB c = 0) : ∀ x ∈ c.crosses, 0 ≤ x.over ∧ x.over < c.threads := by
  obtain ⟨h1, h2, h3⟩ := clothB_ok h
  have h4 := numbers_two h2
  intro x hx
  refine (ends_over (p := fun v => 0 ≤ v ∧ v < c.threads) c.crosses (iota c.threads.toNat) ?_ ?_ h3 x hx).1
  · intro y hy
    simp only [iota, List.mem_map, List.mem_range] at hy
    obtain ⟨i, hi, rfl⟩ := hy
    omega
  · intro y hy
    have := numbers_all h2 y hy
    rw [iota_length]
    omega
theorem taskB_ok {t : Task} (h : taskB t = 0) : t.ok := by
  unfold taskB at h
  split at h
  · rename_i h0; exact absurd h h0
  · rename_i h0
    have h0 : clothB t.cloth = 0 := by simpa using h0
    split at h
    · omega
    · rename_i h1
      split at h
      · rename_i h2
        obtain ⟨-, hn, -⟩ := clothB_ok h0
        have h4 := numbers_two hn
        unfold goodB at h2
        simp only [Bool.and_eq_true, List.all_eq_true] at h2
        obtain ⟨⟨hw, hu⟩, hs⟩ := h2
        refine ⟨by omega, cloth_over h0, ?_, ?_, ?_⟩
        · intro x hx
          have := hw x hx
          simp only [wishOk, isB, Bool.and_eq_true, decide_eq_true_eq] at this
          exact ⟨this.1.1, this.1.2, this.2⟩
        · intro x hx
          have := hu x hx
          simp only [pairOk, isB, Bool.and_eq_true, decide_eq_true_eq, Bool.not_eq_true', decide_eq_false_iff_not] at this
          exact ⟨this.1.1.1, this.1.1.2, this.1.2.1, this.1.2.2, this.2⟩
        · intro c hc
          unfold supplyOk at hs
          rw [List.all_eq_true] at hs
          have := hs c (by simpa using hc)
          simpa using this
      · omega

theorem endsB_append (r : List Int) : ∀ (cs : List Cross) (l : List Int), (∀ x ∈ cs, 0 ≤ x.at_ ∧ x.at_ + 1 < l.length) → (endsB (l ++ r) cs).isSome = (endsB l cs).isSome
  | [], _, _ => rfl
  | c :: cs, l, h => by
    have hc := h c (List.mem_cons_self ..)
    have g0 : ∀ j, j < l.length → (l ++ r).getD j 0 = l.getD j 0 := fun j hj => by simp [List.getElem?_append_left hj]
    have hs : swapL (l ++ r) c.at_.toNat = swapL l c.at_.toNat ++ r := by
      unfold swapL
      rw [g0 _ (by omega), g0 _ (by omega), List.set_append_left _ _ (by omega), List.set_append_left _ _ (by simp; omega)]
    unfold endsB
    rw [g0 _ (by omega), g0 _ (by omega), hs]
    split
    · exact endsB_append r cs (swapL l c.at_.toNat) fun x hx => by rw [swapL_length]; exact h x (List.mem_cons_of_mem _ hx)
    · rfl
theorem endsB_48 {n : Nat} (hn : n ≤ 48) {cs : List Cross} (h : ∀ x ∈ cs, 0 ≤ x.at_ ∧ x.at_ + 1 < n) : (endsB (iota 48) cs).isSome = (endsB (iota n) cs).isSome := by
  obtain ⟨m, hm⟩ : ∃ m, 48 = n + m := ⟨48 - n, by omega⟩
  rw [hm, show iota (n + m) = iota n ++ (List.range m).map (fun (i : Nat) => ((n + i : Nat) : Int)) by unfold iota; rw [List.range_add, List.map_append, List.map_map]; rfl]
  exact endsB_append _ _ _ fun x hx => by rw [iota_length]; exact h x hx
theorem clothB_ends {c : Cloth} (h0 : ¬(48 < c.threads ∨ 20000 < c.crosses.length ∨ 6400 < c.pins.length)) (hn : numbersB c = true) : clothB c = if (endsB (iota 48) c.crosses).isSome then 0 else 6 := by
  have h2 := numbers_two hn
  have ha := numbers_all hn
  rw [endsB_48 (n := c.threads.toNat) (by omega) fun x hx => by have := ha x hx; omega]
  unfold clothB
  rw [if_neg h0, if_neg (by simp [hn])]

/-- What Solve returns: a list, and an error. -/
def resOf : Option (List Int) → List Int × Int
  | none => ([], 4)
  | some l => (l, 0)
def solveR (t : Task) : List Int × Int := if taskB t ≠ 0 then ([], taskB t) else resOf (solveB t t.cloth.threads.toNat [])
end Go.Proofs.YtegbbkmppphddaaDoor
/- The reference's 'solve': the search for the least arrangement. -/
namespace Go.Proofs.YtegbbkmppphddaaDoor
open Go.RowKit

/-- What a search returns: a list, and whether there is one. -/
def SolOut (w : World) (v : Value) (b : Bool) : Option (List Int) → Prop
  | none => v = .slice none 0 0 ∧ b = false
  | some l => b = true ∧ ∃ A c, v = .slice A l.length c ∧ IntsRd w A c l
theorem SolOut.below {w w' : World} {v : Value} {b : Bool} {r : Option (List Int)} (h : SolOut w v b r) (hb : Below w.heap.size w w') : SolOut w' v b r := by
  cases r with
  | none => exact h
  | some l => obtain ⟨h1, A, c, h2, h3⟩ := h; exact ⟨h1, A, c, h2, h3.below hb⟩
def SolPost (w : World) (r : Option (List Int)) (e : Ending) (w' : World) : Prop :=
  ∃ v b, e = .returned (.tuple #[v, .bool b]) ∧ SolOut w' v b r ∧ Below w.heap.size w w'

theorem info3 : (Tryd.prog.info? 3).map (fun i => (i.zero, i.size, i.bytes)) = some (some (.int .i64 0), 1, 8) := by kernel_rfl

set_option maxRecDepth 100000 in
set_option maxHeartbeats 1000000 in
theorem refsolve_any (t : Task) (hk : t.ok) {cA : Option Addr} {cc : Nat} {pA : Option Addr} {pc : Nat} {wA : Option Addr} {wc : Nat} {uA : Option Addr} {uc : Nat} (n : Nat) :
    ∀ (w : World) (lA : Option Addr) (m lc : Nat) (l : List Int), m = l.length → TaskRd w cA cc pA pc wA wc uA uc t → IntsRd w lA lc l → Cols l → ((l.length + n : Nat) : Int) = t.cloth.threads →
    Calls Tryd.prog 25 #[taskVal cA cc pA pc wA wc uA uc t, .slice lA m lc] w (SolPost w (solveB t n l)) := by
  induction n with
  | zero =>
    rintro w lA m lc l rfl h hl hc hlen
    have ht := hk.threads
    have hlen' : (l.length : Int) = t.cloth.threads := by simpa using hlen
    have hlt17 : l.length ≤ 16 := by omega
    have hbl1 : ((l.length : Int) == t.cloth.threads) = true := by simp [hlen']
    clear hlen hlen'
    have hll := hl.len
    have hlm := hl.cap
    unfold maxLen at hlm
    have hT1 := h.below (below_box (.cells #[.int .i64 t.cloth.threads, .slice cA t.cloth.crosses.length cc, .slice pA t.cloth.pins.length pc, .slice wA t.wishes.length wc, .slice uA t.unlike.length uc,
      .int .i64 t.s0, .int .i64 t.s1, .int .i64 t.s2, .int .i64 t.s3, .int .i64 t.s4, .int .i64 t.s5] 30))
    have hL1 := hl.below (below_box (.cells #[.int .i64 t.cloth.threads, .slice cA t.cloth.crosses.length cc, .slice pA t.cloth.pins.length pc, .slice wA t.wishes.length wc, .slice uA t.unlike.length uc,
      .int .i64 t.s0, .int .i64 t.s1, .int .i64 t.s2, .int .i64 t.s3, .int .i64 t.s4, .int .i64 t.s5] 30))
    cases hp : possibleB t l with
    | false =>
      have hno := Lib.hid (solveB_no (t := t) (l := l) 0 hp)
      have HP := Lib.hid hp
      clear hp
      go_enter Tryd.func25, Tryd.ntmps25
      go_wp2_with fail
      refine (possible_any hT1 hL1 hk hc).mono ?_
      rintro e w1 ⟨rfl, hb1⟩
      rw [HP.out]
      go_wp2_with fail
      go_ret2
      refine ⟨_, _, rfl, ?_, (below_box _).trans (hb1.mono (by simp))⟩
      rw [hno.out]
      exact ⟨rfl, rfl⟩
    | true =>
      have HP := Lib.hid hp
      have hyes := Lib.hid (show solveB t 0 l = some l by simp [solveB, hp])
      clear hp
      go_enter Tryd.func25, Tryd.ntmps25
      go_wp2_with fail
      refine (possible_any hT1 hL1 hk hc).mono ?_
      rintro e w1 ⟨rfl, hb1⟩
      rw [HP.out]
      obtain ⟨hcell, _⟩ := bcell hb1
      go_wp2_with fail
      go_ret2
      refine ⟨_, _, rfl, ?_, (below_box _).trans (hb1.mono (by simp))⟩
      rw [hyes.out]
      exact ⟨rfl, _, _, rfl, hL1.below hb1⟩
  | succ n ih =>
    rintro w lA m lc l rfl h hl hc hlen
    have IH := Lib.hid ih
    clear ih
    have HLEN := Lib.hid hlen
    have hlen' := hlen
    have ht := hk.threads
    have hlt17 : l.length + n + 1 ≤ 16 := by omega
    have hll := hl.len
    have hlm := hl.cap
    unfold maxLen at hlm
    have hT1 := h.below (below_box (.cells #[.int .i64 t.cloth.threads, .slice cA t.cloth.crosses.length cc, .slice pA t.cloth.pins.length pc, .slice wA t.wishes.length wc, .slice uA t.unlike.length uc,
      .int .i64 t.s0, .int .i64 t.s1, .int .i64 t.s2, .int .i64 t.s3, .int .i64 t.s4, .int .i64 t.s5] 30))
    have hL1 := hl.below (below_box (.cells #[.int .i64 t.cloth.threads, .slice cA t.cloth.crosses.length cc, .slice pA t.cloth.pins.length pc, .slice wA t.wishes.length wc, .slice uA t.unlike.length uc,
      .int .i64 t.s0, .int .i64 t.s1, .int .i64 t.s2, .int .i64 t.s3, .int .i64 t.s4, .int .i64 t.s5] 30))
    cases hp : possibleB t l with
    | false =>
      have hno := Lib.hid (solveB_no (t := t) (l := l) (n + 1) hp)
      have HP := Lib.hid hp
      clear hp hlen hlen'
      go_enter Tryd.func25, Tryd.ntmps25
      go_wp2_with fail
      refine (possible_any hT1 hL1 hk hc).mono ?_
      rintro e w1 ⟨rfl, hb1⟩
      rw [HP.out]
      go_wp2_with fail
      go_ret2
      refine ⟨_, _, rfl, ?_, (below_box _).trans (hb1.mono (by simp))⟩
      rw [hno.out]
      exact ⟨rfl, rfl⟩
    | true =>
      have hbl1 : ((l.length : Int) == t.cloth.threads) = false := by simp; omega
      have HP := Lib.hid hp
      clear hp hlen hlen'
      go_enter Tryd.func25, Tryd.ntmps25
      go_wp2_with fail
      refine (possible_any hT1 hL1 hk hc).mono ?_
      rintro e w1 ⟨rfl, hb1⟩
      rw [HP.out]
      obtain ⟨hcell, _⟩ := bcell hb1
      go_wp2_with fail
      obtain ⟨i0, hi0, hz0, hz1, hz2⟩ := info_parts info3
      go_loopw [6] (fun c wr => ∃ k : Nat, k ≤ 6 ∧ c = .int .i64 k ∧ Below (w.heap.size + 1) (w.alloc (.cells #[.int .i64 t.cloth.threads, .slice cA t.cloth.crosses.length cc, .slice pA t.cloth.pins.length pc, .slice wA t.wishes.length wc, .slice uA t.unlike.length uc,
      .int .i64 t.s0, .int .i64 t.s1, .int .i64 t.s2, .int .i64 t.s3, .int .i64 t.s4, .int .i64 t.s5] 30)) wr ∧ ∀ j, j < k → solveB t n (l ++ [(j : Int)]) = none) (fun c _ => 6 - (intOf c).toNat)
      case atStart => exact ⟨0, by omega, rfl, by simpa using hb1, fun j hj => by omega⟩
      case round =>
        obtain ⟨k, hk6, rfl, hbl, hall⟩ := hrel
        clear hcell hb1
        obtain ⟨hcell, _⟩ := bcell hbl
        have hszr : w.heap.size + 1 ≤ wr.heap.size := by have := hbl.size; simp at this; omega
        have hxr : w.heap.size < wr.heap.size := by omega
        have HALL := Lib.hid hall
        clear hall
        by_cases hlt : k < 6
        · have hTr : TaskRd wr cA cc pA pc wA wc uA uc t := hT1.below' (by simp) hbl
          have hLr : IntsRd wr lA lc l := hL1.below' (by simp) hbl
          have hkw := Lib.hid (show ∀ x ∈ [(k : Int)], I64 x by intro x hx; simp at hx; subst hx; unfold I64; omega)
          go_wp2
          go_region_held3 (fun w' => Below wr.heap.size wr w' ∧ (∀ b o, b < wr.heap.size → w'.cell? ⟨b, o, none⟩ = wr.cell? ⟨b, o, none⟩)) (first | exact held_drew _ | assumption | exact held_alloc (by assumption) _)
            (first
              | (refine step_append_ints rfl (.tmp 26) (.tmp 27) 33 3 i0 rfl Tryd.underlying33 hi0 hz0 hz1 hz2 wr.heap.size (.slice (some ⟨_, 0, none⟩) 0 0) [] rfl ?ho lA lc l rfl (hLr.below ?hb) (by simp) (by simp; omega) ?hs ?_
                 case hb => exact And.left (by assumption)
                 case hs => exact Below.size (And.left (by assumption))
                 case ho => (first | exact own_lit0 _ (by simp) (by simp) | exact (own_lit0 _ (by simp) (by simp)).alloc _)
                 intro A' c' w1 hown hgrow hge hat hI
                 have hq := held_grown (wr := wr) (by assumption) hgrow hge)
              | (refine step_append_ints rfl (.tmp 28) (.tmp 30) 33 3 i0 rfl Tryd.underlying33 hi0 hz0 hz1 hz2 wr.heap.size (.slice A' ([] ++ l).length c') l rfl ?ho _ 1 [(k : Int)] rfl ?hI hLr.wf (by simp; omega) ?hs ?_
                 case hs => exact Below.size (And.left (by assumption))
                 case ho => (first | exact hown | exact hown.alloc _)
                 case hI =>
                   refine one_int _ (hkw.out _ (by simp)) ?hc ?hs
                   case hc => first | (simp; done) | (refine (hgrow.cell_far _ ?_ ?_).trans ?_ <;> first | (simp; done) | (simp; omega) | (simp [Value.ownBlock]; done))
                   case hs => first | (simp; done) | (refine Nat.lt_of_lt_of_le ?_ hgrow.size; simp; done) | (refine Nat.lt_of_lt_of_le ?_ hgrow.size; simp; omega)
                 intro A2 c2 w2 hown2 hgrow2 hge2 hat2 hI2
                 have hq2 := held_grown (wr := wr) (by assumption) hgrow2 hge2)
              | (go_at_call 25
                 with_reducible refine (IH.out _ _ _ _ (l ++ [(k : Int)]) ?hm (hTr.below ?hb) hI2 (cols_snoc hc hlt) ?hn).mono ?_
                 case hm => simp
                 case hb => exact And.left (by assumption)
                 case hn => have := HLEN.out; simp at this ⊢; omega
                 rintro e w3 ⟨v, b, rfl, hs3, hb3⟩
                 have hq3 := held_step (wr := wr) (by assumption) hb3))
          all_goals
            obtain ⟨hq4, hqc4⟩ := hq3
            have hend : Below (w.heap.size + 1) (w.alloc (.cells #[.int .i64 t.cloth.threads, .slice cA t.cloth.crosses.length cc, .slice pA t.cloth.pins.length pc, .slice wA t.wishes.length wc, .slice uA t.unlike.length uc,
      .int .i64 t.s0, .int .i64 t.s1, .int .i64 t.s2, .int .i64 t.s3, .int .i64 t.s4, .int .i64 t.s5] 30)) w3 := hbl.trans (hq4.mono hszr)
            clear hcell hqc4 hq4 hgrow hgrow2 hge hge2 hat hat2 hown hown2
            generalize hr : solveB t n (l ++ [(k : Int)]) = r at hs3
            have HR := Lib.hid hr
            clear hr
            cases r with
            | none =>
              obtain ⟨rfl, rfl⟩ := hs3
              go_wp2
              go_roundw
              case rel => exact ⟨k + 1, by omega, by go_num, hend, fun j hj => by
                by_cases e : j = k
                · subst e; exact HR.out
                · exact HALL.out j (by omega)⟩
              case measure => simp [intOf]; omega
            | some r =>
              obtain ⟨rfl, A, c, rfl, hI3⟩ := hs3
              have hfin : solveB t (n + 1) l = some r := by
                unfold solveB
                rw [if_pos HP.out]
                exact findSome_yes hlt HALL.out HR.out
              have HF := Lib.hid hfin
              clear hfin
              go_wp2
              go_ret2
              refine ⟨_, _, rfl, ?_, (below_box _).trans (hend.mono (by omega))⟩
              rw [HF.out]
              exact ⟨rfl, A, c, rfl, hI3⟩
        · obtain rfl : k = 6 := by omega
          have hfin : solveB t (n + 1) l = none := by
            unfold solveB
            rw [if_pos HP.out]
            exact findSome_no HALL.out
          have HF := Lib.hid hfin
          clear hfin
          go_wp2
          go_ret2
          refine ⟨_, _, rfl, ?_, (below_box _).trans (hbl.mono (by omega))⟩
          rw [HF.out]
          exact ⟨rfl, rfl⟩
end Go.Proofs.YtegbbkmppphddaaDoor
/- The reference's Solve. -/
namespace Go.Proofs.YtegbbkmppphddaaDoor
open Go.RowKit

def ListOut (w : World) (v : Value) (l : List Int) : Prop := ∃ A c, v = .slice A l.length c ∧ IntsRd w A c l
theorem ListOut.below {w w' : World} {v : Value} {l : List Int} (h : ListOut w v l) (hb : Below w.heap.size w w') : ListOut w' v l := by
  obtain ⟨A, c, h1, h2⟩ := h; exact ⟨A, c, h1, h2.below hb⟩
theorem IntsRd.nil_ (w : World) : IntsRd w none 0 [] := ⟨.inl rfl, by simp, fun _ => rfl, by unfold maxLen; omega, fun x h => by cases h⟩
theorem ListOut.nil_ (w : World) : ListOut w (.slice none 0 0) [] := ⟨none, 0, rfl, IntsRd.nil_ w⟩
/-- A list and an error are returned. -/
def ResPost (w : World) (r : List Int × Int) (e : Ending) (w' : World) : Prop :=
  ∃ v, e = .returned (.tuple #[v, .int .i64 r.2]) ∧ ListOut w' v r.1 ∧ Below w.heap.size w w'

set_option maxHeartbeats 1000000 in
theorem refSolve_any {w : World} {cA : Option Addr} {cc : Nat} {pA : Option Addr} {pc : Nat} {wA : Option Addr} {wc : Nat} {uA : Option Addr} {uc : Nat} {t : Task} (h : TaskRd w cA cc pA pc wA wc uA uc t) :
    Calls Tryd.prog 12 #[taskVal cA cc pA pc wA wc uA uc t] w (ResPost w (solveR t)) := by
  have hT1 := h.below (below_box (.cells #[.int .i64 t.cloth.threads, .slice cA t.cloth.crosses.length cc, .slice pA t.cloth.pins.length pc, .slice wA t.wishes.length wc, .slice uA t.unlike.length uc,
      .int .i64 t.s0, .int .i64 t.s1, .int .i64 t.s2, .int .i64 t.s3, .int .i64 t.s4, .int .i64 t.s5] 30))
  by_cases h0 : taskB t = 0
  · have hk := taskB_ok h0
    have ht := hk.threads
    have hlen : ((([] : List Int).length + t.cloth.threads.toNat : Nat) : Int) = t.cloth.threads := by simp; omega
    have HLEN := Lib.hid hlen
    clear hlen
    have hR : solveR t = resOf (solveB t t.cloth.threads.toNat []) := by
      unfold solveR; rw [if_neg (by simp [h0])]
    have HR := Lib.hid hR
    have H0 := Lib.hid h0
    clear h0 hR
    go_enter Tryd.func12, Tryd.ntmps12
    go_wp2_with fail
    refine (reftask_any hT1).mono ?_
    rintro e w1 ⟨rfl, hb1⟩
    rw [H0.out]
    simp only [World.size_alloc] at hb1
    obtain ⟨hcell, _⟩ := bcell hb1
    go_wp2_with fail
    refine (refsolve_any t hk t.cloth.threads.toNat w1 none 0 0 [] rfl (hT1.below' (by simp) hb1) (IntsRd.nil_ _) (fun x h => by cases h) HLEN.out).mono ?_
    rintro e w2 ⟨v, b, rfl, hs, hb2⟩
    have hB : Below w.heap.size w w2 := ((below_box _).trans (hb1.mono (by omega))).trans (hb2.mono (by have := hb1.size; simp at this; omega))
    generalize hq : solveB t t.cloth.threads.toNat [] = r at hs
    have HQ := Lib.hid hq
    clear hq
    cases r with
    | none =>
      obtain ⟨rfl, rfl⟩ := hs
      go_wp2_with fail
      go_ret2
      refine ⟨.slice none 0 0, ?_, ?_, hB⟩
      · rw [HR.out, HQ.out]; rfl
      · rw [HR.out, HQ.out]; exact ListOut.nil_ _
    | some r =>
      obtain ⟨rfl, A, c, rfl, hI⟩ := hs
      go_wp2_with fail
      go_ret2
      refine ⟨.slice A r.length c, ?_, ?_, hB⟩
      · rw [HR.out, HQ.out]; rfl
      · rw [HR.out, HQ.out]; exact ⟨A, c, rfl, hI⟩
  · have HR := Lib.hid (show solveR t = ([], taskB t) by unfold solveR; rw [if_pos h0])
    have hne : (taskB t != 0) = true := by simp [h0]
    clear h0
    go_enter Tryd.func12, Tryd.ntmps12
    go_wp2_with fail
    refine (reftask_any hT1).mono ?_
    rintro e w1 ⟨rfl, hb1⟩
    simp only [World.size_alloc] at hb1
    go_wp2_with fail
    go_ret2
    refine ⟨.slice none 0 0, ?_, ?_, (below_box _).trans (hb1.mono (by omega))⟩
    · rw [HR.out]; rfl
    · rw [HR.out]; exact ListOut.nil_ _
end Go.Proofs.YtegbbkmppphddaaDoor
