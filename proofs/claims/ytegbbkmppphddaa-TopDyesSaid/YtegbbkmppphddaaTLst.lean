/- The program's Least of colours, where what is seen is of an arrangement. -/
import Derived.Test.YtegbbkmppphddaaTRep
set_option linter.unusedVariables false
set_option linter.unusedSimpArgs false
namespace Go.Proofs.Ytegbbkmppphddaa
open Go.RowKit

theorem repeat_n {w : World} {xb : Nat} (hx : w.cell? ⟨xb, 0, none⟩ = some (.int .i64 (-1))) {n : Nat} (hn : n = 4 ∨ n = 6) :
    Calls Try.prog 30 #[.slice (some ⟨xb, 0, none⟩) 1 1, .int .i64 (n : Nat)] w (RepPost w n) := by
  rcases hn with rfl | rfl
  · exact repeat_4 hx
  · exact repeat_6 hx
/-- Block b is a row of numbers. -/
def RowAt (w : World) (b : Nat) (L : List Int) : Prop := w.heap[b]? = some (.cells (ints L).toArray 3 (0, 0))
theorem RowAt.lt {w : World} {b : Nat} {L : List Int} (h : RowAt w b L) : b < w.heap.size := (Array.getElem?_eq_some_iff.1 h).1
theorem RowAt.cell {w : World} {b : Nat} {L : List Int} (h : RowAt w b L) {k : Nat} (hk : k < L.length) : w.cell? ⟨b, k, none⟩ = some (.int .i64 (L.getD k 0)) := by
  rw [cell_of_row w b k _ _ _ h]
  simp [ints, hk]
theorem RowAt.frozen {w : World} {b : Nat} {L : List Int} (h : RowAt w b L) (k : Nat) : w.frozen? ⟨b, k, none⟩ = false := frozen_of_row w b k _ _ h
theorem RowAt.of_block {w w' : World} {b : Nat} {L : List Int} (h : RowAt w b L) (e : w'.heap[b]? = w.heap[b]?) : RowAt w' b L := e.trans h
theorem RowAt.set {w : World} {b : Nat} {L : List Int} (h : RowAt w b L) (k : Nat) (x : Int) : RowAt (w.setCell ⟨b, k, none⟩ (.int .i64 x)) b (L.set k x) := by
  unfold RowAt
  rw [heap_setCell_same w b k _ _ _ h, ints_set]
  simp
theorem RowAt.ints {w : World} {b : Nat} {L : List Int} (h : RowAt w b L) (hw : ∀ x ∈ L, I64 x) (hl : L.length ≤ maxLen) : IntsRd w (some ⟨b, 0, none⟩) L.length L := by
  refine ⟨.inr ⟨b, 0, rfl, h.lt, fun i r hr j v hv => ?_⟩, Nat.le_refl _, (by intro e; cases e), hl, hw⟩
  have hi : i < L.length := by have := (List.getElem?_eq_some_iff.1 hr).1; simpa using this
  have hr' : r = intCells L[i] := by simpa [hi] using hr.symm
  subst hr'
  have hj : j = 0 := by have := (List.getElem?_eq_some_iff.1 hv).1; simpa [intCells] using this
  subst hj
  obtain rfl : Value.int .i64 L[i] = v := by simpa [intCells] using hv
  have := h.cell hi
  rw [List.getD_eq_getElem?_getD, List.getElem?_eq_getElem hi] at this
  simpa using this
theorem grown_one (w : World) (g k : Nat) (u : Value) : w.grownBy (w.setCell ⟨g, k, none⟩ u) (some g) :=
  ⟨rfl, rfl, rfl, by simp [World.setCell], fun i _ hne => by rw [Below.heap_setCell _ _ _ _ (by rintro rfl; exact hne rfl)]⟩
theorem grown_drew {a b : World} {row : Option Nat} (h : a.grownBy b row) : a.grownBy b.drew row := ⟨h.os, h.tape, h.output, h.size, h.block⟩

def lstL (c : Cloth) (l : List Int) (n m : Nat) : List Int := (List.range n).map fun (t : Nat) => if (c.crosses.take m).any (fun x => x.over == (t : Int)) then l.getD t 0 else -1
theorem lst_len (c : Cloth) (l : List Int) (n m : Nat) : (lstL c l n m).length = n := by simp [lstL]
theorem lst_get (c : Cloth) (l : List Int) {n m k : Nat} (hk : k < n) : (lstL c l n m).getD k 0 = if (c.crosses.take m).any (fun x => x.over == (k : Int)) then l.getD k 0 else -1 := by simp [lstL, hk]
theorem lst_zero (c : Cloth) (l : List Int) (n : Nat) : lstL c l n 0 = List.replicate n (-1) := by
  unfold lstL
  simp only [List.take_zero, List.any_nil, Bool.false_eq_true, if_false]
  apply List.ext_getElem
  · simp
  · intro i h1 h2; simp
theorem lst_succ (c : Cloth) (l : List Int) {n m ov : Nat} (hm : m < c.crosses.length) (ho : c.crosses[m].over = (ov : Int)) (hov : ov < n) : lstL c l n (m + 1) = (lstL c l n m).set ov (l.getD ov 0) := by
  apply List.ext_getElem
  · simp [lstL]
  · intro i h1 h2
    rw [List.getElem_set]
    simp only [lstL, List.getElem_map, List.getElem_range]
    rw [List.take_succ_eq_append_getElem hm, List.any_append]
    simp only [List.any_cons, List.any_nil, Bool.or_false, ho]
    by_cases e : ov = i
    · subst e; simp
    · have : ((ov : Int) == (i : Int)) = false := by simp; omega
      rw [this, Bool.or_false, if_neg e]
theorem map_step {F : List Int} {f : Int → Int} {k : Nat} (hk : k < F.length) : ((F.take k).map f ++ F.drop k).set k (f F[k]) = (F.take (k + 1)).map f ++ F.drop (k + 1) := by
  rw [List.set_append_right _ _ (by simp; omega)]
  have e : k - ((F.take k).map f).length = 0 := by simp; omega
  rw [e, List.drop_eq_getElem_cons hk, List.set_cons_zero, List.take_succ_eq_append_getElem hk, List.map_append]
  simp
theorem map_get {F : List Int} {f : Int → Int} {k : Nat} (hk : k < F.length) : ((F.take k).map f ++ F.drop k).getD k 0 = F[k] := by
  rw [List.getD_eq_getElem?_getD, List.getElem?_append_right (by simp; omega)]
  have e : k - ((F.take k).map f).length = 0 := by simp; omega
  rw [e, List.drop_eq_getElem_cons hk]
  rfl
def finL (c : Cloth) (l : List Int) (n : Nat) : List Int := (lstL c l n c.crosses.length).map fun x => max x 0
theorem finL_wf (c : Cloth) {l : List Int} (h : Cols l) (n : Nat) : ∀ x ∈ finL c l n, I64 x := by
  intro x hx
  unfold finL lstL at hx
  simp only [List.map_map, List.mem_map, List.mem_range, Function.comp] at hx
  obtain ⟨t, -, rfl⟩ := hx
  have h1 : 0 ≤ l.getD t 0 ∧ l.getD t 0 < 6 := by
    by_cases hk : t < l.length
    · rw [List.getD_eq_getElem?_getD, List.getElem?_eq_getElem hk]; exact h _ (List.getElem_mem hk)
    · rw [List.getD_eq_getElem?_getD, List.getElem?_eq_none (by omega)]; show (0 : Int) ≤ 0 ∧ (0 : Int) < 6; omega
  unfold I64
  split <;> omega
theorem grown_to_below {a b : World} {g B : Nat} (h : a.grownBy b (some g)) (hB : B ≤ g) (hs : B ≤ a.heap.size) : Below B a b :=
  ⟨h.os, h.tape, h.output, h.size, fun k hk => h.block k (by omega) (by simp; omega)⟩
def LeastPP (w : World) (L : List Int) (e : Ending) (w' : World) : Prop :=
  ∃ A cp, e = .returned (.tuple #[.slice A L.length cp, .int .i64 0]) ∧ IntsRd w' A cp L ∧ Below w.heap.size w w'

set_option maxRecDepth 100000 in
set_option maxHeartbeats 1500000 in
theorem least_any {w : World} {cA : Option Addr} {cc : Nat} {pA : Option Addr} {pc : Nat} {c : Cloth} (h : ClothRd w cA cc pA pc c) (h0 : clothB c = 0) {l : List Int} (hcl : Cols l) {n : Nat} (hn : n = 4 ∨ n = 6) (hth : c.threads = (n : Nat)) (hln : l.length = n)
    {sA : Option Addr} {sc : Nat} (hs : IntsRd w sA sc (seenL c l)) :
    Calls Try.prog 10 #[clothVal cA cc pA pc c, .slice sA (seenL c l).length sc] w (LeastPP w (finL c l n)) := by
  have hbx := below_box (w := w) (.cells #[.int .i64 c.threads, .slice cA c.crosses.length cc, .slice pA c.pins.length pc] 36)
  have h1 := h.below hbx
  have hs1 := hs.below hbx
  obtain ⟨-, hcr, hov⟩ := clothB_over h0
  have H0 := Lib.hid h0
  have HOV := Lib.hid hov
  have hsl : (seenL c l).length = c.crosses.length := by simp [seenL]
  have HSL := Lib.hid hsl
  have hcol : ColR (seenL c l) := by
    intro x hx
    unfold seenL at hx
    obtain ⟨y, -, rfl⟩ := List.mem_map.1 hx
    by_cases hk : y.over.toNat < l.length
    · rw [List.getD_eq_getElem?_getD, List.getElem?_eq_getElem hk]
      have := hcl _ (List.getElem_mem hk)
      show 0 ≤ l[y.over.toNat] ∧ l[y.over.toNat] < 16
      omega
    · rw [List.getD_eq_getElem?_getD, List.getElem?_eq_none (by omega)]
      show (0 : Int) ≤ 0 ∧ (0 : Int) < 16
      omega
  have HCL := Lib.hid hcl
  have HTH := Lib.hid hth
  have HLN := Lib.hid hln
  clear h0 hov hsl hcl hth hln
  go_enter Try.func10, Try.ntmps10
  go_wp2_with fail
  refine (check_any h1).mono ?_
  rintro e w1 ⟨rfl, hb1⟩
  rw [H0.out]
  have h2 := h1.below hb1
  have hs2 := hs1.below hb1
  have x0 := (hb1.cell (p := ⟨w.heap.size, 0, none⟩) (by simp)).trans (by simp : _ = some (.int .i64 c.threads))
  have x1 := (hb1.cell (p := ⟨w.heap.size, 1, none⟩) (by simp)).trans (by simp : _ = some (.slice cA c.crosses.length cc))
  have hB := hbx.trans (hb1.mono hbx.size)
  have hx1 : w.heap.size < w1.heap.size := by have := hb1.size; simp at this; omega
  have X1 := Lib.hid x1
  clear hb1 hbx h1 hs1
  go_wp2_with fail
  refine (bad_col hs2 hcol (by rw [HSL.out])).mono ?_
  rintro e w2 ⟨rfl, rfl⟩
  go_wp2_with fail
  rw [HTH.out]
  refine (repeat_n (xb := w1.heap.size) (by simp) hn).mono ?_
  rintro e w3 ⟨g, hg, rfl, hrow, hb3⟩
  have hR3 : Hid (RowAt w3 g (lstL c l n 0)) := by rw [lst_zero]; exact hrow
  have hb13 : Below w1.heap.size w1 w3 := (below_box _).trans (hb3.mono (by simp))
  have hg1 : w1.heap.size < g := by simp at hg; omega
  have x1 := (hb13.cell (p := ⟨w.heap.size, 1, none⟩) hx1).trans X1.out
  have hg3 : g < w3.heap.size := RowAt.lt hrow
  clear hrow hb3 hg x0
  go_wp2_with fail
  clear x1
  obtain ⟨wo, hwo⟩ : ∃ wo : World, wo = w3 := ⟨_, rfl⟩
  go_loopw [30] (fun i wr => ∃ m : Nat, m ≤ c.crosses.length ∧ i = .int .i64 m ∧ RowAt wr g (lstL c l n m) ∧ w3.grownBy wr (some g)) (fun i _ => c.crosses.length - (intOf i).toNat)
  case atStart => exact ⟨0, by omega, rfl, hR3.out, ⟨rfl, rfl, rfl, Nat.le_refl _, fun _ _ _ => rfl⟩⟩
  case round =>
    clear hR3 hwo
    obtain ⟨m, hm, rfl, hR, hG⟩ := hrel
    have hlow : ∀ b, b < w1.heap.size → wr.heap[b]? = w1.heap[b]? := fun b hb => (hG.block b (Nat.lt_of_lt_of_le hb hb13.size) (by simp; omega)).trans (hb13.block b hb)
    by_cases hml : m < c.crosses.length
    · obtain ⟨b, off, hcA, hb, k0, k1, k2, k3⟩ := h2.crosses.cross hml
      subst hcA
      have k0 := (World.cell?_of_block (a := ⟨b, off + m * 4, none⟩) (hlow b hb)).trans k0
      have k1 := (World.cell?_of_block (a := ⟨b, off + m * 4 + 1, none⟩) (hlow b hb)).trans k1
      have k2 := (World.cell?_of_block (a := ⟨b, off + m * 4 + 2, none⟩) (hlow b hb)).trans k2
      have k3 := (World.cell?_of_block (a := ⟨b, off + m * 4 + 3, none⟩) (hlow b hb)).trans k3
      have hms : m < (seenL c l).length := by rw [HSL.out]; exact hml
      obtain ⟨sb, so, hsA, hsb, hsm⟩ := hs2.rows.int hms
      subst hsA
      have hsm := (World.cell?_of_block (a := ⟨sb, so + m, none⟩) (hlow sb hsb)).trans hsm
      have hmsi : (m : Int) < ((seenL c l).length : Int) := by omega
      obtain ⟨ho0, ho1, -, -⟩ := HOV.out _ (List.getElem_mem hml)
      rw [HTH.out] at ho1
      obtain ⟨ov, hov⟩ := Int.eq_ofNat_of_zero_le ho0
      have hovn : ov < n := by omega
      have hsv : (seenL c l)[m] = l.getD ov 0 := by
        simp only [seenL, List.getElem_map, hov]
        rfl
      rw [hsv] at hsm
      have HLS := Lib.hid (lst_succ c l hml hov hovn)
      have hcell := hR.cell (k := ov) (by rw [lst_len]; exact hovn)
      rw [lst_get c l hovn] at hcell
      have hfz := hR.frozen ov
      generalize c.crosses[m].work = wk at *
      generalize c.crosses[m].at_ = at' at *
      generalize c.crosses[m].under = un at *
      generalize c.crosses[m].over = ox at *
      subst hov
      generalize hv : l.getD ov 0 = v at *
      obtain ⟨tv, htv0⟩ : ∃ tv, tv = if (c.crosses.take m).any (fun x => x.over == (ov : Int)) = true then v else -1 := ⟨_, rfl⟩
      rw [← htv0] at hcell
      have htv : tv = -1 ∨ (tv ≠ -1 ∧ tv = v) := by
        split at htv0
        · by_cases e : tv = -1
          · exact .inl e
          · exact .inr ⟨e, htv0⟩
        · exact .inl htv0
      clear htv0 hsv
      have hmi : (m : Int) < (c.crosses.length : Int) := by omega
      have hoi : (ov : Int) < (n : Int) := by omega
      have hbx4 := below_box (w := wr) (.cells #[.int .i64 wk, .int .i64 at', .int .i64 (ov : Nat), .int .i64 un] 66)
      have hgr : g < wr.heap.size := hR.lt
      have HNX : Hid (RowAt ((wr.alloc (.cells #[.int .i64 wk, .int .i64 at', .int .i64 (ov : Nat), .int .i64 un] 66)).setCell ⟨g, ov, none⟩ (.int .i64 v)).drew g (lstL c l n (m + 1))) := by
        rw [HLS.out]
        exact (hR.of_block (hbx4.block g hgr)).set ov v
      have HGX : Hid (w3.grownBy ((wr.alloc (.cells #[.int .i64 wk, .int .i64 at', .int .i64 (ov : Nat), .int .i64 un] 66)).setCell ⟨g, ov, none⟩ (.int .i64 v)).drew (some g)) := grown_drew (grownBy_trans (grownBy_trans hG (grownBy_below hbx4 _)) (grown_one _ _ _ _))
      have d2 : (wr.alloc (.cells #[.int .i64 wk, .int .i64 at', .int .i64 (ov : Nat), .int .i64 un] 66)).cell? ⟨wr.heap.size, 2, none⟩ = some (.int .i64 (ov : Nat)) := by simp
      have e0 := (hbx4.cell (p := ⟨g, ov, none⟩) hgr).trans hcell
      have e1 := (hbx4.frozen (p := ⟨g, ov, none⟩) hgr).trans hfz
      have hsbr : sb < wr.heap.size := by have := hG.size; have := hb13.size; omega
      have e2 := (hbx4.cell (p := ⟨sb, so + m, none⟩) hsbr).trans hsm
      have hz4 : wr.heap.size < (wr.alloc (.cells #[.int .i64 wk, .int .i64 at', .int .i64 (ov : Nat), .int .i64 un] 66)).heap.size := by simp
      have hn6 : n ≤ 6 := by omega
      clear hv HLS hR hG hlow hbx4
      rcases htv with htv | ⟨hne1, htv⟩
      ·
        subst htv
        go_wp2_with fail
        generalize (wr.alloc (.cells #[.int .i64 wk, .int .i64 at', .int .i64 (ov : Nat), .int .i64 un] 66)) = W4 at *
        go_region
        go_wp2_with fail
        go_roundw
        case rel => exact ⟨m + 1, by omega, by go_num, HNX.out, HGX.out⟩
        case measure => simp [intOf]; omega
      ·
        subst htv
        have g1 : (tv == -1) = false := by simp; omega
        have g2 : (tv != -1) = true := by simp; omega
        go_wp2_with fail
        clear g1 g2
        generalize (wr.alloc (.cells #[.int .i64 wk, .int .i64 at', .int .i64 (ov : Nat), .int .i64 un] 66)) = W4 at *
        go_region
        go_wp2_with fail
        go_roundw
        case rel => exact ⟨m + 1, by omega, by go_num, HNX.out, HGX.out⟩
        case measure => simp [intOf]; omega
    · obtain rfl : m = c.crosses.length := by omega
      have hki : ¬ ((c.crosses.length : Int) < (c.crosses.length : Int)) := by omega
      have hRX := Lib.hid hR
      have hGX := Lib.hid hG
      have hgl : g < wr.heap.size := hR.lt
      have hn6 : n ≤ 6 := by omega
      clear hR hG hlow
      go_wp2_with fail
      obtain ⟨wo, hwo⟩ : ∃ wo : World, wo = wr := ⟨_, rfl⟩
      rw [← hwo] at hRX hGX
      go_loopw [61] (fun i wr => ∃ k : Nat, k ≤ n ∧ i = .int .i64 k ∧ RowAt wr g (((lstL c l n c.crosses.length).take k).map (fun x => max x 0) ++ (lstL c l n c.crosses.length).drop k) ∧ wo.grownBy wr (some g)) (fun i _ => n - (intOf i).toNat)
      case atStart => exact ⟨0, by omega, rfl, by rw [← hwo]; simpa using hRX.out, by rw [← hwo]; exact ⟨rfl, rfl, rfl, Nat.le_refl _, fun _ _ _ => rfl⟩⟩
      case round =>
        clear hwo
        obtain ⟨k, hk, rfl, hR, hG⟩ := hrel
        have hfl : (lstL c l n c.crosses.length).length = n := lst_len c l n _
        have hlen : (((lstL c l n c.crosses.length).take k).map (fun x => max x 0) ++ (lstL c l n c.crosses.length).drop k).length = n := by simp [hfl]; omega
        by_cases hkn : k < n
        · have hkf : k < (lstL c l n c.crosses.length).length := by rw [hfl]; exact hkn
          have hcell := hR.cell (k := k) (by rw [hlen]; exact hkn)
          rw [map_get hkf] at hcell
          have hfz := hR.frozen k
          have HST := Lib.hid (map_step (f := fun x => max x 0) hkf)
          have hgr : g < wr.heap.size := hR.lt
          have HNX : Hid (RowAt (wr.setCell ⟨g, k, none⟩ (.int .i64 (max (lstL c l n c.crosses.length)[k] 0))) g (((lstL c l n c.crosses.length).take (k + 1)).map (fun x => max x 0) ++ (lstL c l n c.crosses.length).drop (k + 1))) := by
            rw [← HST.out]
            exact hR.set k _
          have HGX2 : Hid (wo.grownBy (wr.setCell ⟨g, k, none⟩ (.int .i64 (max (lstL c l n c.crosses.length)[k] 0))) (some g)) := grownBy_trans hG (grown_one _ _ _ _)
          have hki : (k : Int) < (n : Int) := by omega
          clear hR hG hfl hlen HST
          generalize (lstL c l n c.crosses.length)[k] = a at *
          go_wp2_with fail
          go_roundw
          case rel => exact ⟨k + 1, by omega, by go_num, HNX.out, HGX2.out⟩
          case measure => simp [intOf]; omega
        · obtain rfl : k = n := by omega
          have hki : ¬ ((k : Int) < (k : Int)) := by omega
          have hfin : ((lstL c l k c.crosses.length).take k).map (fun x => max x 0) ++ (lstL c l k c.crosses.length).drop k = finL c l k := by
            unfold finL
            rw [List.take_of_length_le (by rw [hfl]; exact Nat.le_refl _), List.drop_eq_nil_of_le (by rw [hfl]; exact Nat.le_refl _), List.append_nil]
          rw [hfin] at hR
          have hfl2 : (finL c l k).length = k := by simp [finL, lst_len]
          have hwf : ∀ x ∈ finL c l k, I64 x := finL_wf c HCL.out k
          have HI := Lib.hid (hR.ints hwf (by rw [hfl2]; unfold maxLen; omega))
          have hBW : Below w.heap.size w wr := hB.trans ((hb13.mono hB.size).trans (grown_to_below (grownBy_trans hGX.out hG) (by have := hB.size; omega) (by have := hB.size; have := hb13.size; omega)))
          have HBW := Lib.hid hBW
          have HFL := Lib.hid hfl2
          clear hR hG hfl hlen hfin hfl2 hwf hBW
          go_wp2_with fail
          go_ret2
          exact ⟨some ⟨g, 0, none⟩, (finL c l k).length, by rw [HFL.out]; rfl, HI.out, HBW.out⟩
end Go.Proofs.Ytegbbkmppphddaa
