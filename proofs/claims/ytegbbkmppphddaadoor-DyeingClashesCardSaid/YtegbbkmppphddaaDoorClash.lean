/- The program's Clash. -/
import Derived.Test.YtegbbkmppphddaaDoorClashA
set_option linter.unusedVariables false
set_option linter.unusedSimpArgs false
namespace Go.Proofs.YtegbbkmppphddaaDoor
open Go.RowKit
attribute [local go_sem] Oper.semAt_some

theorem below_box3 (w : World) (o p q : Obj) : Below w.heap.size w (((w.alloc o).alloc p).alloc q) := (below_box2 w o p).trans ((below_box q).mono (by simp; omega))
theorem clashR_err {t : Task} (h : taskB t ≠ 0) : clashR t = ([], taskB t) := by unfold clashR; rw [if_pos h]
theorem clashR_long {t : Task} (h : taskB t = 0) (h2 : 10 < t.wishes.length) : clashR t = ([], 3) := by unfold clashR; rw [if_neg (by simp [h]), if_pos h2]
theorem clashR_none {t : Task} (h : taskB t = 0) (h2 : ¬ 10 < t.wishes.length) (h3 : clashF t = none) : clashR t = ([], 4) := by unfold clashR; rw [if_neg (by simp [h]), if_neg h2, h3]
theorem clashR_some {t : Task} (h : taskB t = 0) (h2 : ¬ 10 < t.wishes.length) {l : List Nat} (h3 : clashF t = some l) : clashR t = (l.map fun (i : Nat) => (i : Int), 0) := by unfold clashR; rw [if_neg (by simp [h]), if_neg h2, h3]

def mark (r : Nat) : Deferred := { target := .collected r, args := #[] }
/-- Some marks' blocks are shut, nothing else has changed. -/
structure Shut (rs : List Nat) (w W : World) : Prop where
  os : W.os = w.os
  tape : W.tape = w.tape
  output : W.output = w.output
  size : W.heap.size = w.heap.size
  block : ∀ k, k ∉ rs → W.heap[k]? = w.heap[k]?
theorem leavesM_marks {F : Fence} {n : Nat} {P : Program} {fn : Func} {tmps : Array Value} {R : Ending → World → Prop} {v : Value} : ∀ (rs : List Nat) (w : World), rs.Nodup → (∀ r ∈ rs, w.heap[r]? = some (.deferred (some []))) →
    (∀ W, Shut rs w W → (results fn tmps).run P W = .ok v W ∧ R (.returned v) W) → LeavesInM F n P fn tmps R (rs.map mark) .returning w
  | [], w, _, _, h => by
    obtain ⟨h1, h2⟩ := h w ⟨rfl, rfl, rfl, rfl, fun _ _ => rfl⟩
    exact ⟨v, h1, h2⟩
  | r :: rs, w, hn, hm, h => by
    rw [List.nodup_cons] at hn
    refine ⟨by simp, .inl ⟨r, _, rfl, run_takeDeferred (hm r (List.mem_cons_self ..)), ?_⟩⟩
    refine leavesM_marks (v := v) rs (w.putObj r (.deferred none)) hn.2 (fun x hx => ?_) fun W hW => ?_
    · refine (World.putObj_heap_other ?_).trans (hm x (List.mem_cons_of_mem _ hx))
      rintro rfl; exact hn.1 hx
    · refine h W ⟨hW.os, hW.tape, hW.output, by rw [hW.size]; simp [World.putObj], fun k hk => ?_⟩
      rw [List.mem_cons, not_or] at hk
      exact (hW.block k hk.2).trans (World.putObj_heap_other hk.1)

/-- The results are laid. -/
def IxC (w wq : World) (rs : List Nat) (e : List Nat) (W : World) : Prop := ∃ A c, W.cell? ⟨w.heap.size + 1, 0, none⟩ = some (.slice A (e.map fun (i : Nat) => (i : Int)).length c) ∧ IntsRd W A c (e.map fun (i : Nat) => (i : Int)) ∧ (∀ g off, A = some ⟨g, off, none⟩ → wq.heap.size + 2 ≤ g) ∧
  W.cell? ⟨w.heap.size + 1 + 1, 0, none⟩ = some (.int .i64 0) ∧ Below w.heap.size w W ∧ wq.heap.size + 2 ≤ W.heap.size ∧ ∀ r ∈ rs, W.heap[r]? = some (.deferred (some []))

set_option maxRecDepth 100000 in
set_option maxHeartbeats 8000000 in
theorem dyclash_any {w : World} {cA : Option Addr} {cc : Nat} {pA : Option Addr} {pc : Nat} {wA : Option Addr} {wc : Nat} {uA : Option Addr} {uc : Nat} {t : Task} (h : TaskRd w cA cc pA pc wA wc uA uc t) (hT : TabW w) :
    Calls Tryd.prog 14 #[taskVal cA cc pA pc wA wc uA uc t] w (ResPost w (clashR t)) := by
  have hwl := h.wlen
  have hwm := h.wcap
  unfold maxLen at hwm
  have hBx : Below w.heap.size w (((w.alloc (.cells #[.int .i64 t.cloth.threads, .slice cA t.cloth.crosses.length cc, .slice pA t.cloth.pins.length pc, .slice wA t.wishes.length wc, .slice uA t.unlike.length uc,
      .int .i64 t.s0, .int .i64 t.s1, .int .i64 t.s2, .int .i64 t.s3, .int .i64 t.s4, .int .i64 t.s5] 30)).alloc (.cells #[.slice none 0 0] 33)).alloc (.cells #[.int .i64 0] 34)) := below_box3 w _ _ _
  have hT1 := h.below hBx
  have hTb := hT.below hBx
  refine (callsIn_wide (n := 5)).1 ?_
  refine callsIn_of_wp_marks Tryd.func14 rfl trivial ?_ rfl
  simp only [Tryd.ntmps14, List.size_toArray, List.length_cons, List.length_nil, Nat.reduceAdd, Nat.reduceSub, Array.replicate_succ, Array.replicate_zero, List.push_toArray, List.append_toArray, List.nil_append, List.cons_append]
  gi_wp2
  refine ⟨trivial, CallsIn.mono (callsIn_wide.2 (dycheck_any hT1)) ?_⟩
  rintro e w1 ⟨rfl, hb1⟩
  simp only [World.size_alloc] at hb1
  obtain ⟨hcell, hfro⟩ := bcell hb1
  have hc1 := (hcell (w.heap.size + 1) 0 (by omega)).trans (by go_simp : _ = some (.slice none 0 0))
  have hf1 := (hfro (w.heap.size + 1) 0 (by omega)).trans (by go_simp : _ = false)
  have hc2 := (hcell (w.heap.size + 1 + 1) 0 (by omega)).trans (by go_simp : _ = some (.int .i64 0))
  have hf2 := (hfro (w.heap.size + 1 + 1) 0 (by omega)).trans (by go_simp : _ = false)
  have hBw : Below w.heap.size w w1 := hBx.trans (hb1.mono (by omega))
  have hsw : w.heap.size + 1 + 1 < w1.heap.size := by have := hb1.size; simp at this; omega
  have hfin : ∀ (W : World) (v : Value) (n : Int), W.cell? ⟨w.heap.size + 1, 0, none⟩ = some v → W.cell? ⟨w.heap.size + 1 + 1, 0, none⟩ = some (.int .i64 n) → True := fun _ _ _ _ _ => trivial
  by_cases h0 : taskB t = 0
  · have hk := taskB_ok h0
    by_cases h10 : 10 < t.wishes.length
    · have HR := Lib.hid (clashR_long h0 h10)
      have g : (10 : Int) < t.wishes.length := by omega
      have H0 := Lib.hid h0
      clear h0
      rw [H0.out]
      gi_wp2
      exact retM (v := .tuple #[.slice none 0 0, .int .i64 3]) rfl (by simp [results, Tryd.f14, go_sem, hc1, hc2]) ⟨.slice none 0 0, by rw [HR.out], by rw [HR.out]; exact ListOut.nil_ _, (hBw.setCell (p := ⟨w.heap.size + 1, 0, none⟩) (by simp) _).setCell (p := ⟨w.heap.size + 1 + 1, 0, none⟩) (by simp; omega) _⟩
    · have hT2 := hT1.below' (by simp) hb1
      have hTb2 := hTb.below (w' := w1) (hb1.mono (by simp))
      have g : ((t.wishes.length : Int)) ≤ 10 := by omega
      have H10 := Lib.hid h10
      have H0 := Lib.hid h0
      have hth := hk.threads
      clear h0 h10
      rw [H0.out]
      gi_wp2
      have eg := enters_of (P := Tryd.prog) Tryd.func26 (by kernel_rfl) rfl
      refine ⟨trivial, CallsIn.mono (callsIn_wide.2 (made_any hT2 hk 26 #[] (fun _ => true) eg (fun w' i _ _ => clash1_any i))) ?_⟩
      rintro e w2 ⟨b, hlt, rfl, hP, hb2⟩
      have hM := made_matches hk (fun _ => true)
      rw [pickT_all] at hM
      gi_wp2
      refine ⟨trivial, CallsIn.mono (callsIn_wide.2 (solve_any hk hM (made_wf hk _) hP)) ?_⟩
      intro e w3 hS
      have hb3 : Below w1.heap.size w1 w3 := solve_below hS hb2 hlt
      clear hP hM hb2
      obtain ⟨hcell3, hfro3⟩ := bcell hb3
      have hc1 := (hcell3 (w.heap.size + 1) 0 (by omega)).trans hc1
      have hf1 := (hfro3 (w.heap.size + 1) 0 (by omega)).trans hf1
      have hc2 := (hcell3 (w.heap.size + 1 + 1) 0 (by omega)).trans hc2
      have hf2 := (hfro3 (w.heap.size + 1 + 1) 0 (by omega)).trans hf2
      have hBw3 : Below w.heap.size w w3 := hBw.trans (hb3.mono (by omega))
      have hb4 := hb1.trans (hb3.mono (by omega))
      have hsw3 : w.heap.size + 1 + 1 < w3.heap.size := by have := hb3.size; omega
      clear hcell hfro hcell3 hfro3
      rcases hS.2 with ⟨r, A, c, hq, rfl, hI⟩ | ⟨hq, v, rfl⟩
      · have HR := Lib.hid (clashR_none H0.out H10.out ((clashF_none hk).2 (by rw [hq]; rfl)))
        clear hq hS hI
        gi_wp2
        exact retM (v := .tuple #[.slice none 0 0, .int .i64 4]) rfl (by simp [results, Tryd.f14, go_sem, hc1, hc2]) ⟨.slice none 0 0, by rw [HR.out], by rw [HR.out]; exact ListOut.nil_ _, (hBw3.setCell (p := ⟨w.heap.size + 1, 0, none⟩) (by simp) _).setCell (p := ⟨w.heap.size + 1 + 1, 0, none⟩) (by simp; omega) _⟩
      · have HQ := Lib.hid hq
        have hT3 := hT2.below hb3
        have hTb3 := hTb2.below hb3
        obtain ⟨hcell, hfro⟩ := bcell hb4
        clear hq hS hT2 hTb2 hT1 hTb hBx
        have HK := Lib.hid hk
        clear hk
        gi_wp2
        refine wpIn_loop (fun a' w' => ∃ (k : Nat) (rs : List Nat) (u7 u8 u9 u10 u11 u33 u34 u35 u36 u37 u38 u39 u40 u41 u42 u43 u44 u45 u46 u47 u48 u49 u50 u51 u52 u53 u54 u55 u56 u57 u58 u59 u60 u61 : Value), (k ≤ t.wishes.length + 1 ∧ Below w3.heap.size w3 w' ∧ (∀ m, m < k → clashL t m [] 0 = none) ∧ rs.Nodup ∧ ∀ r ∈ rs, w3.heap.size ≤ r ∧ w'.heap[r]? = some (.deferred (some []))) ∧
          a' = { tmps := #[taskVal cA cc pA pc wA wc uA uc t, .pointer (some ⟨w.heap.size, 0, none⟩), .pointer (some ⟨w.heap.size + 1, 0, none⟩), .pointer (some ⟨w.heap.size + 1 + 1, 0, none⟩), .int .i64 0, v, .bool false, u7, u8, u9, u10, u11, .agg #[.int .i64 t.cloth.threads, .slice cA t.cloth.crosses.length cc, .slice pA t.cloth.pins.length pc, .slice wA t.wishes.length wc, .slice uA t.unlike.length uc, .int .i64 t.s0, .int .i64 t.s1, .int .i64 t.s2, .int .i64 t.s3, .int .i64 t.s4, .int .i64 t.s5], .int .i64 0, .int .i64 0, .bool false, undef, .pointer (some ⟨w.heap.size, 3, none⟩), .slice wA t.wishes.length wc, .int .i64 (t.wishes.length : Nat), .bool (decide ((10 : Int) < (t.wishes.length : Nat))), .tuple #[v, .bool false], .agg #[.int .i64 t.cloth.threads, .slice cA t.cloth.crosses.length cc, .slice pA t.cloth.pins.length pc, .slice wA t.wishes.length wc, .slice uA t.unlike.length uc, .int .i64 t.s0, .int .i64 t.s1, .int .i64 t.s2, .int .i64 t.s3, .int .i64 t.s4, .int .i64 t.s5], .pointer (some ⟨b, 0, none⟩), .tuple #[v, .bool false], v, .bool false, .bool false, .pointer (some ⟨w.heap.size, 3, none⟩), .slice wA t.wishes.length wc, .int .i64 (t.wishes.length : Nat), .int .i64 ((t.wishes.length : Nat) + 1), .int .i64 (k : Nat), u33, u34, u35, u36, u37, u38, u39, u40, u41, u42, u43, u44, u45, u46, u47, u48, u49, u50, u51, u52, u53, u54, u55, u56, u57, u58, u59, u60, u61], defers := rs.map mark }) (fun a' _ => t.wishes.length + 1 - (intOf (a'.tmps.getD 32 undef)).toNat) ⟨0, [], _, _, _, _, _, _, _, _, _, _, _, _, _, _, _, _, _, _, _, _, _, _, _, _, _, _, _, _, _, _, _, _, _, _, ⟨by omega, Below.refl _ _, fun m hm => by omega, List.nodup_nil, fun r hr => by cases hr⟩, rfl⟩ ?_
        rintro a' wr ⟨k, rs, u7, u8, u9, u10, u11, u33, u34, u35, u36, u37, u38, u39, u40, u41, u42, u43, u44, u45, u46, u47, u48, u49, u50, u51, u52, u53, u54, u55, u56, u57, u58, u59, u60, u61, ⟨hkn, hbr, hall, hnd, hmk⟩, rfl⟩
        have HALL := Lib.hid hall
        have HND := Lib.hid hnd
        have HMK := Lib.hid hmk
        clear hall hnd hmk
        have hbL := hb4.trans (hbr.mono (by omega))
        obtain ⟨hcellr, hfror⟩ := bcell hbr
        have hc1r := (hcellr (w.heap.size + 1) 0 (by omega)).trans hc1
        have hf1r := (hfror (w.heap.size + 1) 0 (by omega)).trans hf1
        have hc2r := (hcellr (w.heap.size + 1 + 1) 0 (by omega)).trans hc2
        have hf2r := (hfror (w.heap.size + 1 + 1) 0 (by omega)).trans hf2
        have hswr : w.heap.size + 1 + 1 < wr.heap.size := by have := hbr.size; omega
        clear hcell hfro hcellr hfror
        obtain ⟨hcell, hfro⟩ := bcell hbL
        by_cases hlt : k < t.wishes.length + 1
        · have hlti : (k : Int) < (t.wishes.length : Int) + 1 := by omega
          gi_wp2
          refine ⟨trivial, CallsIn.mono (callsIn_wide.2 (chosen_any k t.wishes.length)) ?_⟩
          rintro e wq ⟨rfl, hwq⟩
          have hbq : Below wr.heap.size wr wq := by rw [hwq]; exact below_box2 wr _ _
          have hq1 : wq.cell? ⟨wr.heap.size + 1, 0, none⟩ = some (.int .i64 (t.wishes.length : Nat)) := by rw [hwq]; simp
          have hq2 : wq.cell? ⟨wr.heap.size, 0, none⟩ = some (.int .i64 (k : Nat)) := by rw [hwq]; simp
          have hqs : wq.heap.size = wr.heap.size + 2 := by rw [hwq]; simp
          clear hwq
          gi_wp2
          have hbB := hbL.trans (hbq.mono (by omega))
          have hbw3 : Below w3.heap.size w3 wq := hbr.trans (hbq.mono hbr.size)
          have hBwq : Below w.heap.size w wq := hBw3.trans (hbw3.mono (by omega))
          obtain ⟨hcellq, hfroq⟩ := bcell hbw3
          have hc1q := (hcellq (w.heap.size + 1) 0 (by omega)).trans hc1
          have hf1q := (hfroq (w.heap.size + 1) 0 (by omega)).trans hf1
          have hc2q := (hcellq (w.heap.size + 1 + 1) 0 (by omega)).trans hc2
          have hf2q := (hfroq (w.heap.size + 1 + 1) 0 (by omega)).trans hf2
          have hTq := hT3.below hbw3
          have hTbq := hTb3.below hbw3
          have hmkq : Hid (∀ r ∈ rs, w3.heap.size ≤ r ∧ r < wq.heap.size ∧ wq.heap[r]? = some (.deferred (some []))) := fun r hr => by
            obtain ⟨q1, q2⟩ := HMK.out r hr
            have q3 := (Array.getElem?_eq_some_iff.1 q2).1
            exact ⟨q1, by omega, (hbq.block r q3).trans q2⟩
          clear hcell hfro hcellq hfroq hc1r hf1r hc2r hf2r hc1 hf1 hc2 hf2
          refine wpIn_range_chosen (wr.heap.size + 1) wr.heap.size (w.heap.size + 1) (w.heap.size + 1 + 1) t.wishes.length k (badB t)
            (fun W => Below wq.heap.size wq W)
            (IxC w wq rs)
            (by omega) (by omega) rfl rfl (by omega) (by omega) (by omega) (by omega) (by omega) (by omega) hq1 hq2 ?hI ?hIl ?hIx ?hIxd (Below.refl _ _) ?hround ?hdone ?hstop
          case hI => exact fun W W' h1 h2 => h1.trans (h2.mono h1.size)
          case hIl => exact fun W l o h1 h2 => h1.grown (grownBy_putObj' W l o) h1.size (fun k hk => by cases hk; omega)
          case hIx =>
            rintro e W o ⟨A, c, i1, i2, i3, i4, i5, i6, i7⟩
            refine ⟨A, c, (World.cell?_of_block (a := ⟨w.heap.size + 1, 0, none⟩) (World.putObj_heap_other (by show w.heap.size + 1 ≠ _; omega))).trans i1, ⟨?_, i2.len, i2.nil, i2.cap, i2.wf⟩, i3, (World.cell?_of_block (a := ⟨w.heap.size + 1 + 1, 0, none⟩) (World.putObj_heap_other (by show w.heap.size + 1 + 1 ≠ _; omega))).trans i4,
              i5.grown (grownBy_putObj' W _ o) (by omega) (fun k hk => by cases hk; omega), by simp [World.putObj]; omega, fun r hr => (World.putObj_heap_other (by have := (hmkq.out r hr).2.1; omega)).trans (i7 r hr)⟩
            rcases i2.rows with h | ⟨g, off, hA, hlt, hc⟩
            · exact .inl h
            · have hg := i3 g off hA
              refine .inr ⟨g, off, hA, by simp [World.putObj]; omega, fun i r hr j v hv => ?_⟩
              exact (World.cell?_of_block (a := ⟨g, off + i * 1 + j, none⟩) (World.putObj_heap_other (by show g ≠ _; omega))).trans (hc i r hr j v hv)
          case hIxd =>
            rintro e W ⟨A, c, i1, i2, i3, i4, i5, i6, i7⟩
            exact ⟨A, c, i1, i2.below (Below.refl _ _).drew, i3, i4, i5.drew, i6, i7⟩
          case hround =>
            rintro m l W x hl1 hl2 hI hasc
            unfold RoundC
            gi_wp2
            refine ⟨below_box _, fun V hV hVs hVo => ?_⟩
            have e0 := hVo W.heap.size (by omega)
            have x8 := (World.cell?_of_block (a := ⟨W.heap.size, 0, none⟩) e0).trans (by simp : _ = some (.int .u64 (setOf x : Nat)))
            have f8 := (World.frozen?_of_block (a := ⟨W.heap.size, 0, none⟩) e0).trans (by simp : _ = false)
            simp only [World.size_alloc] at hVs
            clear hVo e0
            have hbV := hbB.trans (hV.mono (by have := hbB.size; simp at this; omega))
            have hbV3 : Below w3.heap.size w3 V := hbw3.trans (hV.mono hbw3.size)
            obtain ⟨hcell, hfro⟩ := bcell hbV
            have hTV := hTq.below hV
            have hTbV := hTbq.below hV
            have hswV : w.heap.size + 1 + 1 < V.heap.size := by omega
            have hv10 := hasc.lt1024 (by omega)
            have hpw := Lib.hid (pick_with hasc.asc (t := t) hasc.lt)
            have HBITS := Lib.hid (bitsOf_set hasc.asc (fun i hi => by have := hasc.lt i hi; omega))
            have hVW := hV.size
            clear hI
            generalize hvv : setOf x = vs at *
            have HVS := Lib.hid hvv
            clear hvv
            gi_wp2
            have eg2 := enters_of (P := Tryd.prog) Tryd.func28 (by kernel_rfl) rfl
            refine ⟨trivial, fun h => (by cases h), CallsIn.mono (CallsIn.inRound l (callsIn_wide.2 (made_any hTV HK.out 28 #[.pointer (some ⟨W.heap.size, 0, none⟩)] (fun i => vs.testBit i) eg2 (fun w' i hb hi => clash2_any vs hv10 ((hb.cell (p := ⟨W.heap.size, 0, none⟩) (by show W.heap.size < _; omega)).trans x8) i (by omega))))) ?_⟩
            rintro e V2 ⟨b2, hlt2, rfl, hP2, hb2⟩
            have hM2 := made_matches HK.out (fun i => vs.testBit i)
            gi_wp2
            refine ⟨trivial, fun h => (by cases h), CallsIn.mono (CallsIn.inRound l (callsIn_wide.2 (solve_any (pickT_ok HK.out _) hM2 (made_wf HK.out _) hP2))) ?_⟩
            intro e V3 hS2
            have hb3V : Below V.heap.size V V3 := solve_below hS2 hb2 hlt2
            clear hP2 hM2 hb2 hlt2 hcell hfro
            rcases hS2.2 with ⟨r, A, c, hq, rfl, hI2⟩ | ⟨hq, v2, rfl⟩
            · have hbad : Hid (badB t x = false) := by
                rw [hpw.out] at hq
                unfold badB
                rw [show solveB (withT t x) t.cloth.threads.toNat [] = some r from hq]; rfl
              clear hq hS2 hI2
              gi_wp2
              exact ⟨hbad.out, hb3V, hV.trans (hb3V.mono hV.size)⟩
            · have hbad : Hid (badB t x = true) := by
                rw [hpw.out] at hq
                unfold badB
                rw [show solveB (withT t x) t.cloth.threads.toNat [] = none from hq]; rfl
              clear hq hS2
              obtain ⟨hcellV, hfroV⟩ := bcell hb3V
              have x8 := (hcellV W.heap.size 0 (by omega)).trans x8
              have f8 := (hfroV W.heap.size 0 (by omega)).trans f8
              have hT3V := hTbV.below hb3V
              have hs3V := hb3V.size
              obtain ⟨hcellq, hfroq⟩ := bcell (hV.trans (hb3V.mono hV.size))
              have hc1V := (hcellq (w.heap.size + 1) 0 (by omega)).trans hc1q
              have hf1V := (hfroq (w.heap.size + 1) 0 (by omega)).trans hf1q
              have hc2V := (hcellq (w.heap.size + 1 + 1) 0 (by omega)).trans hc2q
              have hf2V := (hfroq (w.heap.size + 1 + 1) 0 (by omega)).trans hf2q
              clear hcellq hfroq hcellV hfroV hc1q hf1q hc2q hf2q
              gi_wp2
              obtain ⟨wo, rfl⟩ : ∃ wo : World, wo = wr := ⟨_, rfl⟩
              obtain ⟨i0, hi0, hz0, hz1, hz2⟩ := info_parts info_int
              gi_loopg [11] (vs + 1) (fun K ov W' => ∃ (X : Nat) (dl : List Int) (A : Option Addr) (c : Nat), X < K ∧ X < 1024 ∧ (bitsOf vs).map (fun (i : Nat) => (i : Int)) = dl ++ (bitsOf X).map (fun (i : Nat) => (i : Int)) ∧ V3.grownBy W' (some W.heap.size) ∧ W'.cell? ⟨W.heap.size, 0, none⟩ = some (.int .u64 X) ∧ W'.frozen? ⟨W.heap.size, 0, none⟩ = false ∧
                ov = .slice A dl.length c ∧ W'.ownsRow V3.heap.size 3 1 (.slice A dl.length c) dl.length (ints dl))
              case atStart => exact ⟨vs, [], none, 0, by omega, hv10, by simp, World.grownBy.refl _ _, x8, f8, rfl, ⟨by simp [ints], .inl ⟨rfl, rfl⟩⟩⟩
              case round =>
                clear x8 f8
                obtain ⟨X, dl, A, c, hXK, hX10, hbits, hgr, x8, f8, rfl, hown⟩ := hrel
                have hsr := hgr.size
                have HB := Lib.hid hbits
                have HGR := Lib.hid hgr
                have HOWN := Lib.hid hown
                obtain ⟨hdw, hdl⟩ := bits_ints hbits
                have HDW := Lib.hid hdw
                have hc8 : W.heap.size < wr.heap.size := by omega
                clear hbits hgr hown hdw
                by_cases hX0 : X = 0
                · subst hX0
                  have hdx : dl = x.map (fun (i : Nat) => (i : Int)) := by
                    have := HB.out
                    rw [HBITS.out, show bitsOf 0 = [] from by decide] at this
                    simpa using this.symm
                  have HDX := Lib.hid hdx
                  clear hdx
                  have c1 := (World.cell?_of_block (a := ⟨w.heap.size + 1, 0, none⟩) (HGR.out.block (w.heap.size + 1) (by omega) (by simp; omega))).trans hc1V
                  have g1 := (World.frozen?_of_block (a := ⟨w.heap.size + 1, 0, none⟩) (HGR.out.block (w.heap.size + 1) (by omega) (by simp; omega))).trans hf1V
                  have c2 := (World.cell?_of_block (a := ⟨w.heap.size + 1 + 1, 0, none⟩) (HGR.out.block (w.heap.size + 1 + 1) (by omega) (by simp; omega))).trans hc2V
                  have g2 := (World.frozen?_of_block (a := ⟨w.heap.size + 1 + 1, 0, none⟩) (HGR.out.block (w.heap.size + 1 + 1) (by omega) (by simp; omega))).trans hf2V
                  clear hc1V hf1V hc2V hf2V
                  have hfin : PostC (badB t x) (w.heap.size + 1) (w.heap.size + 1 + 1) W.heap.size (fun W => Below wq.heap.size wq W) (IxC w wq rs x) V .ret { tmps := #[], defers := [] } ((wr.setCell ⟨w.heap.size + 1, 0, none⟩ (.slice A dl.length c)).setCell ⟨w.heap.size + 1 + 1, 0, none⟩ (.int .i64 0)) := by
                    have hkeep : ∀ k, k ≠ w.heap.size + 1 → k ≠ w.heap.size + 1 + 1 → ((wr.setCell ⟨w.heap.size + 1, 0, none⟩ (.slice A dl.length c)).setCell ⟨w.heap.size + 1 + 1, 0, none⟩ (.int .i64 0)).heap[k]? = wr.heap[k]? := fun k h1 h2 =>
                      (Below.heap_setCell _ _ _ _ (by simpa using h2)).trans (Below.heap_setCell _ _ _ _ (by simpa using h1))
                    have hgrw : ∀ k, k < W.heap.size → wr.heap[k]? = V.heap[k]? := fun k hk => (HGR.out.block k (by omega) (by simp; omega)).trans (hb3V.block k (by omega))
                    have hsz : ((wr.setCell ⟨w.heap.size + 1, 0, none⟩ (.slice A dl.length c)).setCell ⟨w.heap.size + 1 + 1, 0, none⟩ (.int .i64 0)).heap.size = wr.heap.size := by simp [World.setCell]
                    refine ⟨hbad.out, by rw [hsz]; omega, fun k hk h1 h2 => (hkeep k h1 h2).trans (hgrw k hk), A, c, ?_, ?_, ?_, ?_, ?_, by rw [hsz]; omega, fun r hr => ?_⟩
                    · rw [← HDX.out]
                      refine (World.cell?_of_block (a := ⟨w.heap.size + 1, 0, none⟩) (Below.heap_setCell _ _ _ _ (by simp))).trans ?_
                      exact World.cell?_setCell_same' _ _ _ (by rw [c1]; rfl)
                    · rw [← HDX.out]
                      refine intsRd_owns (owns_keep HOWN.out fun g hg => hkeep g ?_ ?_) HDW.out
                      · have := (HOWN.out.lt g hg).1; omega
                      · have := (HOWN.out.lt g hg).1; omega
                    · intro g off hA
                      have := owns_addr HOWN.out g off hA
                      omega
                    · exact World.cell?_setCell_same' _ _ _ (by rw [World.cell?_of_block (a := ⟨w.heap.size + 1 + 1, 0, none⟩) (Below.heap_setCell _ _ _ _ (by simp)), c2]; rfl)
                    · exact ((((hBwq.trans (hV.mono (by omega))).trans (hb3V.mono (by omega))).grown HGR.out (by omega) (fun k hk => by cases hk; omega)).setCell (p := ⟨w.heap.size + 1, 0, none⟩) (by simp) _).setCell (p := ⟨w.heap.size + 1 + 1, 0, none⟩) (by simp; omega) _
                    · obtain ⟨q1, q2, q3⟩ := hmkq.out r hr
                      exact (hkeep r (by omega) (by omega)).trans ((hgrw r (by omega)).trans ((hV.block r q2).trans q3))
                  have HFIN := Lib.hid hfin
                  clear hfin
                  gi_wp2
                  exact HFIN.out
                · have hx0 : ((X : Int) != 0) = true := by simp; omega
                  have hT4 : TabW wr := hT3V.of_block (HGR.out.block 1 (by have := hT3V.lt; omega) (by have := hTbq.lt; simp; omega))
                  obtain ⟨hkey, htz, hcons, hlt3⟩ := tz_key X hX10 hX0
                  have HCONS := Lib.hid hcons
                  have HLT3 := Lib.hid hlt3
                  have htzw := Lib.hid (show I64 ((tz10 X : Nat) : Int) by unfold I64; omega)
                  have hcall := Lib.hid (tz_any hT4 X hX10 hX0)
                  clear hkey hcons hlt3 hT4
                  have hand := and_pred10 hX0 hX10
                  have hX1 : (1 : Int) ≤ (X : Int) := by omega
                  generalize htt : tz10 X = tz at *
                  have HTT := Lib.hid htt
                  clear htt
                  gi_wp2
                  refine ⟨trivial, fun h => (by cases h), CallsIn.mono (CallsIn.inRound l (callsIn_wide.2 hcall.out)) ?_⟩
                  rintro e w5 ⟨rfl, rfl⟩
                  gi_wp2_with (refine wpListIn_append_ints (w := wr.alloc (.cells #[.int .i64 (tz : Nat)] 3)) rfl (.tmp 55) (.tmp 58) 33 3 i0 rfl Tryd.underlying33 hi0 hz0 hz1 hz2 V3.heap.size (.slice A dl.length c) dl rfl (HOWN.out.alloc _) (some ⟨wr.heap.size, 0, none⟩) 1 [((tz : Nat) : Int)] rfl (one_int _ htzw.out (by simp) (by simp)) HDW.out (by simp; omega) (by simp; omega) ?_; intro A' c' w6 hown6 hgr6 hge6 hI6; have hK6 := Lib.hid (w_grown HGR.out (World.alloc_grown wr _) hgr6 hge6 hsr); have hx6 := hK6.out.2.1 _ hc8 (by omega); have x86 := (World.cell?_of_block (a := ⟨W.heap.size, 0, none⟩) hx6).trans x8; have f86 := (World.frozen?_of_block (a := ⟨W.heap.size, 0, none⟩) hx6).trans f8; have HOWN6 := Lib.hid hown6; clear hown6 hgr6 hge6 hI6 hx6)
                  have hs6 := hK6.out.2.2
                  have hc86 : ((w6.setCell ⟨W.heap.size, 0, none⟩ (.int .u64 ((X &&& (X - 1) : Nat) : Int)))).cell? ⟨W.heap.size, 0, none⟩ = some (.int .u64 ((X &&& (X - 1) : Nat) : Int)) := World.cell?_setCell_same' _ _ _ (by rw [x86]; rfl)
                  have hf86 : ((w6.setCell ⟨W.heap.size, 0, none⟩ (.int .u64 ((X &&& (X - 1) : Nat) : Int)))).frozen? ⟨W.heap.size, 0, none⟩ = false := by simp [f86]
                  gi_roundg X
                  case measure => exact hXK
                  case rel =>
                    refine ⟨X &&& (X - 1), dl ++ [((tz : Nat) : Int)], A', c', HLT3.out, by have := HLT3.out; omega, ?_, grown_set hK6.out.1 _, hc86, hf86, by simp, owns_keep HOWN6.out fun g hg => Below.heap_setCell _ _ _ _ ?_⟩
                    · rw [HB.out, HCONS.out]; simp
                    · have := (HOWN6.out.lt g hg).1
                      simp; omega
          case hdone =>
            rintro W hok hIW hD
            have hNEXT : Hid ((∀ m, m < k + 1 → clashL t m [] 0 = none) ∧ (wq.heap.size :: rs).Nodup ∧ ∀ r ∈ wq.heap.size :: rs, w3.heap.size ≤ r ∧ W.heap[r]? = some (.deferred (some []))) := by
              refine ⟨fun m hm => ?_, ?_, fun r hr => ?_⟩
              · by_cases e : m = k
                · subst e; exact hok
                · exact HALL.out m (by omega)
              · rw [List.nodup_cons]
                exact ⟨fun h => by have := (hmkq.out _ h).2.1; omega, HND.out⟩
              · rcases List.mem_cons.1 hr with rfl | hr
                · exact ⟨hbw3.size, hD⟩
                · obtain ⟨q1, q2, q3⟩ := hmkq.out r hr
                  exact ⟨q1, (hIW.block r q2).trans q3⟩
            clear hok hD
            gi_wp2
            refine ⟨⟨k + 1, wq.heap.size :: rs, _, _, _, _, _, _, _, _, _, _, _, _, _, _, _, _, _, _, _, _, _, _, _, _, _, _, _, _, _, _, _, _, _, _, ⟨by omega, hbw3.trans (hIW.mono hbw3.size), hNEXT.out⟩, rfl⟩, by simp [intOf]; omega⟩
          case hstop =>
            rintro W x hok ⟨A, c, i1, i2, i3, i4, i5, i6, i7⟩ hD
            have hF : clashF t = some x := findSome_yes (by omega) HALL.out hok
            have HR := Lib.hid (clashR_some H0.out H10.out hF)
            have hnd2 : (wq.heap.size :: rs).Nodup := by
              rw [List.nodup_cons]
              exact ⟨fun h => by have := (hmkq.out _ h).2.1; omega, HND.out⟩
            have hmk2 : ∀ r ∈ wq.heap.size :: rs, W.heap[r]? = some (.deferred (some [])) := fun r hr => by
              rcases List.mem_cons.1 hr with rfl | hr
              · exact hD
              · exact i7 r hr
            have hres : ∀ W', Shut (wq.heap.size :: rs) W W' → W'.cell? ⟨w.heap.size + 1, 0, none⟩ = some (.slice A (x.map fun (i : Nat) => (i : Int)).length c) ∧ W'.cell? ⟨w.heap.size + 1 + 1, 0, none⟩ = some (.int .i64 0) ∧ ResPost w (clashR t) (.returned (.tuple #[.slice A (x.map fun (i : Nat) => (i : Int)).length c, .int .i64 0])) W' := by
              intro W' hW'
              have hne : ∀ k, k < w3.heap.size → k ∉ wq.heap.size :: rs := fun k hk h => by
                rcases List.mem_cons.1 h with rfl | h
                · have := hbw3.size; omega
                · have := (hmkq.out k h).1; omega
              refine ⟨(World.cell?_of_block (a := ⟨w.heap.size + 1, 0, none⟩) (hW'.block (w.heap.size + 1) (hne _ (by omega)))).trans i1, (World.cell?_of_block (a := ⟨w.heap.size + 1 + 1, 0, none⟩) (hW'.block (w.heap.size + 1 + 1) (hne _ (by omega)))).trans i4, .slice A (x.map fun (i : Nat) => (i : Int)).length c, by rw [HR.out], ?_, ?_⟩
              · rw [HR.out]
                refine ⟨A, c, rfl, ⟨?_, i2.len, i2.nil, i2.cap, i2.wf⟩⟩
                rcases i2.rows with h | ⟨g, off, hA, hlt, hc⟩
                · exact .inl h
                · have hg := i3 g off hA
                  refine .inr ⟨g, off, hA, by rw [hW'.size]; exact hlt, fun i r hr j v hv => ?_⟩
                  refine (World.cell?_of_block (a := ⟨g, off + i * 1 + j, none⟩) (hW'.block g fun h => ?_)).trans (hc i r hr j v hv)
                  rcases List.mem_cons.1 h with rfl | h
                  · omega
                  · have := (hmkq.out g h).2.1; omega
              · exact ⟨hW'.os.trans i5.os, hW'.tape.trans i5.tape, hW'.output.trans i5.output, by rw [hW'.size]; exact i5.size, fun k hk => (hW'.block k (hne k (by omega))).trans (i5.block k hk)⟩
            have HRES := Lib.hid hres
            have HMK2 := Lib.hid hmk2
            clear hF hok hD hres i1 i2 i3 i4 i5 i6 i7 hmk2
            gi_wp2
            refine leavesM_marks (v := .tuple #[.slice A (x.map fun (i : Nat) => (i : Int)).length c, .int .i64 0]) (wq.heap.size :: rs) W hnd2 HMK2.out fun W' hW' => ?_
            obtain ⟨r1, r2, r3⟩ := HRES.out W' hW'
            exact ⟨by simp [results, Tryd.f14, go_sem, r1, r2], r3⟩
        · exfalso
          have hF : clashF t = none := by
            unfold clashF
            rw [List.findSome?_eq_none_iff]
            intro m hm
            have : m < t.wishes.length + 1 := by simpa using hm
            exact HALL.out m (by omega)
          have := (clashF_none HK.out).1 hF
          rw [HQ.out] at this
          cases this
  · have HR := Lib.hid (clashR_err h0)
    have hne : (taskB t != 0) = true := by simp [h0]
    clear h0
    gi_wp2
    exact retM (v := .tuple #[.slice none 0 0, .int .i64 (taskB t)]) rfl (by simp [results, Tryd.f14, go_sem, hc1, hc2]) ⟨.slice none 0 0, by rw [HR.out], by rw [HR.out]; exact ListOut.nil_ _, (hBw.setCell (p := ⟨w.heap.size + 1, 0, none⟩) (by simp) _).setCell (p := ⟨w.heap.size + 1 + 1, 0, none⟩) (by simp; omega) _⟩
end Go.Proofs.YtegbbkmppphddaaDoor
