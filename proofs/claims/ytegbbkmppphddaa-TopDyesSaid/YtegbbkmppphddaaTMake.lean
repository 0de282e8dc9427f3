/- The program's Make at a sheet in which nothing is wrong. -/
import Derived.Test.YtegbbkmppphddaaTPin
set_option linter.unusedVariables false
set_option linter.unusedSimpArgs false
namespace Go.Proofs.Ytegbbkmppphddaa
open Go.RowKit

theorem IntsRd.keepB {w w' : World} {lb lo c : Nat} {L : List Int} (h : IntsRd w (some ⟨lb, lo, none⟩) c L) (hb : w'.heap[lb]? = w.heap[lb]?) : IntsRd w' (some ⟨lb, lo, none⟩) c L := by
  refine ⟨?_, h.len, h.nil, h.cap, h.wf⟩
  rcases h.rows with hr | ⟨b, o, e, hl, hc⟩
  · exact .inl hr
  · cases e
    right
    refine ⟨lb, lo, rfl, ?_, fun i r hi j u hj => (World.cell?_of_block (a := ⟨lb, lo + i * 1 + j, none⟩) hb).trans (hc i r hi j u hj)⟩
    have h1 : w.heap[lb]? = some w.heap[lb] := Array.getElem?_eq_getElem hl
    rw [h1] at hb
    exact (Array.getElem?_eq_some_iff.1 hb).1
theorem MkP.more {W0 W1 w w1 : World} {B0 CB LB : Nat} {S : List Nat} {th : Int} {s : MkS} {cA : Option Addr} {cc : Nat} {pA : Option Addr} {pc : Nat} (h : MkP W0 W1 w B0 CB LB S th s cA cc pA pc) (hCB : CB < B0) (hLB : LB < B0) (hb : Below w.heap.size w w1) {g : Nat} (hg : w.heap.size ≤ g ∧ g < w1.heap.size) : MkP W0 w1 w1 B0 CB LB (g :: S) th s cA cc pA pc := by
  have h1 := h.grow hCB hLB hb
  refine ⟨h1.c0, h1.c1, h1.c2, h1.fr, h1.crosses, h1.pins, h1.dis, h1.line, h1.size, h1.keep, fun b hb' => ?_, h1.os, h1.tape, h1.output⟩
  rcases List.mem_cons.1 hb' with rfl | hb'
  · exact ⟨Nat.le_trans h.size hg.1, hg.2, rfl, fun e => by have := (h.crosses.lt b e).2; omega, fun e => by have := (h.pins.lt b e).2; omega⟩
  · obtain ⟨q1, q2, q3, q4, q5⟩ := h1.boxes b hb'
    exact ⟨q1, q2, rfl, q4, q5⟩
theorem MkP.less {W0 W1 W1' w : World} {B0 CB LB : Nat} {S S' : List Nat} {th : Int} {s : MkS} {cA : Option Addr} {cc : Nat} {pA : Option Addr} {pc : Nat} (h : MkP W0 W1 w B0 CB LB S th s cA cc pA pc) (hS : ∀ b ∈ S', b ∈ S) (he : ∀ b ∈ S', W1.heap[b]? = W1'.heap[b]?) : MkP W0 W1' w B0 CB LB S' th s cA cc pA pc := by
  refine ⟨h.c0, h.c1, h.c2, h.fr, h.crosses, h.pins, h.dis, h.line, h.size, h.keep, fun b hb' => ?_, h.os, h.tape, h.output⟩
  obtain ⟨q1, q2, q3, q4, q5⟩ := h.boxes b (hS b hb')
  exact ⟨q1, q2, q3.trans (he b hb'), q4, q5⟩
theorem crossB_rng {c : UInt8} {n : Int} (h : n ∈ crossB c) : n = 1 ∨ n = 2 ∨ n = 3 ∨ n = -1 ∨ n = -2 ∨ n = -3 := by
  unfold crossB at h
  (repeat' split at h) <;> simp at h <;> omega
theorem lit_four2 (w : World) (o : Obj) (a b c d : Value) (ty : TypeId) : ∀ j u, ([a, b, c, d] : List Value)[j]? = some u → ((w.alloc o).alloc (.cells #[a, b, c, d] ty)).drew.cell? ((⟨w.heap.size + 1, 0, none⟩ : Addr).add j) = some u := by
  intro j u h
  have := lit_four (w.alloc o) a b c d ty j u h
  rw [World.size_alloc] at this
  exact this
def MakePP (w : World) (s : Sheet) (e : Ending) (w' : World) : Prop :=
  ∃ cA cc pA pc, e = .returned (.tuple #[clothVal cA cc pA pc (makeC s), .int .i64 0]) ∧ ClothRd w' cA cc pA pc (makeC s) ∧ Below w.heap.size w w'

set_option maxRecDepth 100000 in
set_option maxHeartbeats 8000000 in
theorem make_prog {w : World} {sA : Option Addr} {sc : Nat} {s : Sheet} (h : SheetRd w sA sc s) (h0 : s.ok) :
    Calls Try.prog 6 #[sheetVal sA sc s] w (MakePP w s) := by
  have hl := h.len
  have hc := h.cap
  unfold maxLen at hc
  have hpr := h0.pairs
  have hln := h0.len
  have hbx := below_box2 w (.cells #[.int .i64 s.pairs, .slice sA s.works.length sc] 24) (.cells #[.int .i64 0, .slice none 0 0, .slice none 0 0] 36)
  have h1 := h.below hbx
  have eg := enters_of (P := Try.prog) Try.func17 (by kernel_rfl) rfl
  have H0 := Lib.hid h0
  clear h0
  go_enter Try.func6, Try.ntmps6
  go_wp2_with fail
  refine (sheet_ok h1 H0.out).mono ?_
  rintro e w1 ⟨rfl, hb1⟩
  have hB1 := hbx.trans (hb1.mono hbx.size)
  have hs1 : w.heap.size + 1 < w1.heap.size := by have := hb1.size; simp at this; omega
  have x0 := (hb1.cell (p := ⟨w.heap.size, 0, none⟩) (by simp; omega)).trans (by simp : _ = some (.int .i64 s.pairs))
  have x1 := (hb1.cell (p := ⟨w.heap.size, 1, none⟩) (by simp; omega)).trans (by simp : _ = some (.slice sA s.works.length sc))
  have R0 := Lib.hid ((hb1.cell (p := ⟨w.heap.size + 1, 0, none⟩) (by simp)).trans (by simp : _ = some (.int .i64 0)))
  have R1 := Lib.hid ((hb1.cell (p := ⟨w.heap.size + 1, 1, none⟩) (by simp)).trans (by simp : _ = some (.slice none 0 0)))
  have R2 := Lib.hid ((hb1.cell (p := ⟨w.heap.size + 1, 2, none⟩) (by simp)).trans (by simp : _ = some (.slice none 0 0)))
  have RF := Lib.hid (fun o => (hb1.frozen (p := ⟨w.heap.size + 1, o, none⟩) (by simp)).trans (by simp : _ = false))
  have X1 := Lib.hid x1
  have hx1 : w.heap.size < w1.heap.size := by omega
  clear hb1 h1 hbx
  go_wp2_with fail
  refine (begun_any _).mono ?_
  rintro e w2 ⟨rfl, hb2⟩
  go_upto_region 6 with (refine wpList_store_mid rfl 60 (.tmp 6) (.tmp 28) rfl w2.heap.size 0 _ rfl rfl (line_there w2) line_sz line_ones ?_)
  generalize hW3 : World.setCells _ _ _ _ = W3
  obtain ⟨hL3, hB3, hs3⟩ := line_stored w2 W3 hW3
  have hb2' := Lib.hid hb2
  have hB13 : Below w1.heap.size w1 W3 := ((below_box _).trans (hb2.mono (by simp))).trans (hB3.mono (by have := hb2.size; simp at this; omega))
  have hs2 : w1.heap.size + 1 ≤ w2.heap.size := by have := hb2.size; simpa using this
  have hcb : ∀ o, W3.cell? ⟨w1.heap.size, o, none⟩ = (w1.alloc (.cells #[.int .i64 (2 * s.pairs), .slice none 0 0, .slice none 0 0] 36)).cell? ⟨w1.heap.size, o, none⟩ := fun o =>
    (hB3.cell (p := ⟨w1.heap.size, o, none⟩) (by show w1.heap.size < w2.heap.size; omega)).trans (hb2.cell (p := ⟨w1.heap.size, o, none⟩) (by simp))
  have hcf : ∀ o, W3.frozen? ⟨w1.heap.size, o, none⟩ = (w1.alloc (.cells #[.int .i64 (2 * s.pairs), .slice none 0 0, .slice none 0 0] 36)).frozen? ⟨w1.heap.size, o, none⟩ := fun o =>
    (hB3.frozen (p := ⟨w1.heap.size, o, none⟩) (by show w1.heap.size < w2.heap.size; omega)).trans (hb2.frozen (p := ⟨w1.heap.size, o, none⟩) (by simp))
  have HM : Hid (MkP W3 W3 W3 W3.heap.size w1.heap.size w2.heap.size [] (2 * s.pairs) (makeK s.works 0) none 0 none 0) :=
    ⟨(hcb 0).trans (by simp), (hcb 1).trans (by simp [makeK]), (hcb 2).trans (by simp [makeK]), fun o => (hcf o).trans (by simp), World.ownsRow_nil _ _ _ _, World.ownsRow_nil _ _ _ _, (by intro k hk; cases hk), hL3, Nat.le_refl _, fun _ _ _ _ => rfl, (by intro b hb; cases hb), rfl, rfl, rfl⟩
  have hCB : w1.heap.size < W3.heap.size := by omega
  have hLB : w2.heap.size < W3.heap.size := by omega
  have hne : w1.heap.size ≠ w2.heap.size := by omega
  have hB3w := hB1.trans (hB13.mono hB1.size)
  have x1 := (hB13.cell (p := ⟨w.heap.size, 1, none⟩) hx1).trans X1.out
  have R0 := Lib.hid ((hB13.cell (p := ⟨w.heap.size + 1, 0, none⟩) hs1).trans R0.out)
  have R1 := Lib.hid ((hB13.cell (p := ⟨w.heap.size + 1, 1, none⟩) hs1).trans R1.out)
  have R2 := Lib.hid ((hB13.cell (p := ⟨w.heap.size + 1, 2, none⟩) hs1).trans R2.out)
  have RF := Lib.hid (fun o => (hB13.frozen (p := ⟨w.heap.size + 1, o, none⟩) hs1).trans (RF.out o))
  have hx3 : w.heap.size < W3.heap.size := by omega
  clear hcb hcf hb2 hb2' hL3 hs3 hW3 x0 hB3
  have hmul : IntKind.i64.wrap (2 * s.pairs) = 2 * s.pairs := IntWalk.i64_in _ (by omega)
  have hki0 : (0 : Int) ≤ (s.works.length : Int) := by omega
  go_wp2_with fail
  clear x1
  obtain ⟨wo, hwo⟩ : ∃ wo : World, wo = W3 := ⟨_, rfl⟩
  go_loopw [32] (fun i wr => ∃ (k : Nat) (cA : Option Addr) (cc : Nat) (pA : Option Addr) (pc : Nat), k ≤ s.works.length ∧ i = .int .i64 k ∧ MkP W3 W3 wr W3.heap.size w1.heap.size w2.heap.size [] (2 * s.pairs) (makeK s.works k) cA cc pA pc ∧ (makeK s.works k).ok ∧ (makeK s.works k).sz ≤ 40 * k) (fun i _ => s.works.length - (intOf i).toNat)
  case atStart => exact ⟨0, none, 0, none, 0, by omega, rfl, HM.out, start_ok _, by simp [makeK, MkS.sz]⟩
  case round =>
    clear HM hwo
    obtain ⟨k, cA, cc, pA, pc, hk, rfl, hM, hok, hsz⟩ := hrel
    have hBr : Below w.heap.size w wr := hB3w.trans (hM.below (by omega) (by omega) (by omega) (Nat.le_refl _))
    by_cases hlt : k < s.works.length
    · obtain ⟨b, off, hsA, hb, k0, k1, k2⟩ := (h.below hBr).rows.work hlt
      subst hsA
      have hki : (k : Int) < (s.works.length : Int) := by omega
      obtain ⟨hkd, hat0, hat1⟩ := workB_ok (H0.out.work _ (List.getElem_mem hlt))
      have HWD := Lib.hid (H0.out.word _ (List.getElem_mem hlt))
      have hwsz := H0.out.size _ (List.getElem_mem hlt)
      generalize hkde : s.works[k].kind = kd at *
      generalize hate : s.works[k].at_ = at' at *
      generalize hwde : s.works[k].word = wd at *
      have HKD := Lib.hid hkde
      have HAT := Lib.hid hate
      have HWDE := Lib.hid hwde
      clear hkde hate hwde
      obtain ⟨mid, hmid⟩ : ∃ mid : Nat, (mid : Int) = 2 * at' + 1 := ⟨(2 * at' + 1).toNat, by omega⟩
      have hm45 : mid ≤ 45 ∧ 1 ≤ mid := by omega
      have HMID := Lib.hid hmid.symm
      have hmu : IntKind.i64.wrap (2 * at') = 2 * at' := IntWalk.i64_in _ (by omega)
      have hme : 2 * at' + 1 = (mid : Int) := hmid.symm
      clear hmid
      go_upto_region 11 with fail
      have hb4 : Below wr.heap.size wr (((wr.alloc (.cells #[.int .i64 (k : Nat)] 3)).alloc (.cells #[.int .i64 kd, .int .i64 at', .string wd] 57)).alloc (.cells #[.int .i64 (mid : Nat)] 3)) := (below_box2 wr _ _).trans ((below_box _).mono (by simp; omega))
      have di : (((wr.alloc (.cells #[.int .i64 (k : Nat)] 3)).alloc (.cells #[.int .i64 kd, .int .i64 at', .string wd] 57)).alloc (.cells #[.int .i64 (mid : Nat)] 3)).cell? ⟨wr.heap.size, 0, none⟩ = some (.int .i64 (k : Nat)) := by go_simp
      have dk : (((wr.alloc (.cells #[.int .i64 (k : Nat)] 3)).alloc (.cells #[.int .i64 kd, .int .i64 at', .string wd] 57)).alloc (.cells #[.int .i64 (mid : Nat)] 3)).cell? ⟨(wr.heap.size + 1), 0, none⟩ = some (.int .i64 kd) := by go_simp
      have dw : (((wr.alloc (.cells #[.int .i64 (k : Nat)] 3)).alloc (.cells #[.int .i64 kd, .int .i64 at', .string wd] 57)).alloc (.cells #[.int .i64 (mid : Nat)] 3)).cell? ⟨(wr.heap.size + 1), 2, none⟩ = some (.string wd) := by go_simp
      have dm : (((wr.alloc (.cells #[.int .i64 (k : Nat)] 3)).alloc (.cells #[.int .i64 kd, .int .i64 at', .string wd] 57)).alloc (.cells #[.int .i64 (mid : Nat)] 3)).cell? ⟨(wr.heap.size + 1 + 1), 0, none⟩ = some (.int .i64 (mid : Nat)) := by go_simp
      have hM4 := hM.open_ hCB hLB hb4 (S' := [wr.heap.size, (wr.heap.size + 1), (wr.heap.size + 1 + 1)]) (by intro b hb; simp at hb; rcases hb with rfl | rfl | rfl <;> simp <;> omega)
      clear hM k0 k1 k2 hBr hb
      generalize (((wr.alloc (.cells #[.int .i64 (k : Nat)] 3)).alloc (.cells #[.int .i64 kd, .int .i64 at', .string wd] 57)).alloc (.cells #[.int .i64 (mid : Nat)] 3)) = W4 at *
      clear hme hmu
      rcases hkd with rfl | ⟨rfl, hem⟩
      · obtain ⟨wq, rfl⟩ : ∃ wq : World, wq = wr := ⟨_, rfl⟩
        obtain ⟨S1, hS1⟩ : ∃ S1 : Nat → MkS, S1 = fun j => (wd.data.toList.take j).foldl (charS (k : Nat) (mid : Nat)) (makeK s.works k) := ⟨_, rfl⟩
        have HM4 := Lib.hid hM4
        have HNX := Lib.hid (show makeK s.works (k + 1) = S1 wd.size by
          have e1 : s.works.getD k default = s.works[k] := by simp [hlt]
          show workS (k : Nat) (makeK s.works k) (s.works.getD k default) = _
          rw [e1]
          unfold workS startS
          rw [HKD.out, HAT.out, HWDE.out, if_neg (by decide), hS1]
          simp only [HMID.out]
          rw [List.take_of_length_le (by simp)])
        clear hM4
        go_wp2_with fail
        obtain ⟨wo, hwo⟩ : ∃ wo : World, wo = W4 := ⟨_, rfl⟩
        go_loopw [50] (fun i wr5 => ∃ (j : Nat) (cA5 : Option Addr) (cc5 : Nat) (pA5 : Option Addr) (pc5 : Nat), j ≤ wd.size ∧ i = .int .i64 j ∧ MkP W3 W4 wr5 W3.heap.size w1.heap.size w2.heap.size [wq.heap.size, (wq.heap.size + 1), (wq.heap.size + 1 + 1)] (2 * s.pairs) (S1 j) cA5 cc5 pA5 pc5 ∧ (S1 j).ok ∧ (S1 j).sz ≤ 40 * k + 2 * j) (fun i _ => wd.size - (intOf i).toNat)
        case atStart => exact ⟨0, cA, cc, pA, pc, by omega, rfl, by rw [hS1]; exact HM4.out, by rw [hS1]; exact hok, by rw [hS1]; show (makeK s.works k).sz ≤ _; omega⟩
        case round =>
          clear HM4 hwo hok hsz
          obtain ⟨j, cA5, cc5, pA5, pc5, hj, rfl, hM, hok, hsz⟩ := hrel
          by_cases hjw : j < wd.size
          · have hcj : j < wd.data.toList.length := by simpa using hjw
            have HSJ : Hid (S1 (j + 1) = charS (k : Nat) (mid : Nat) (S1 j) wd[j]) := by
              simp only [hS1]
              exact Lib.hid (by rw [List.take_succ_eq_append_getElem hcj, List.foldl_append]; rfl)
            have ci := hM.box (b := wq.heap.size) (by simp) 0 di
            have cw := hM.box (b := (wq.heap.size + 1)) (by simp) 2 dw
            have cm := hM.box (b := (wq.heap.size + 1 + 1)) (by simp) 0 dm
            have hji : (j : Int) < (wd.size : Int) := by omega
            generalize hs2 : S1 j = s1 at *
            have HS2 := Lib.hid hs2
            clear hs2
            by_cases hP : wd[j] = 80
            · have heb : (((wd[j]).toNat : Int) == 80) = true := by simp [hP]
              have HN := Lib.hid (show S1 (j + 1) = pinS (k : Nat) (mid : Nat) s1 by rw [HSJ.out]; unfold charS; rw [if_pos hP])
              have HOK := Lib.hid (pin_ok hok (i := (k : Nat)) (mid := (mid : Nat)) (by omega) (by omega))
              have hps : s1.pins.length ≤ 100000 := by unfold MkS.sz at hsz; omega
              clear hP
              go_wp2_with fail
              refine (pin_any hM hCB hLB hne (IB := wq.heap.size) (MB := (wq.heap.size + 1 + 1)) (by simp) (by simp) ci cm (by omega) hps).mono ?_
              rintro e w6 ⟨rfl, pA6, pc6, hM6⟩
              go_wp2_with fail
              go_roundw
              case rel => exact ⟨j + 1, cA5, cc5, pA6, pc6, by omega, by go_num, by rw [HN.out]; exact hM6, by rw [HN.out]; exact HOK.out.1, by rw [HN.out, HOK.out.2]; omega⟩
              case measure => simp [intOf]; omega
            · have heb : (((wd[j]).toNat : Int) == 80) = false := ne_code hP (by decide)
              obtain ⟨hw0, hcw⟩ := one_char_ok HWD.out hjw
              have HN := Lib.hid (show S1 (j + 1) = (crossB wd[j]).foldl (crossS (k : Nat) (mid : Nat)) s1 by rw [HSJ.out]; unfold charS; rw [if_neg hP])
              have HCW := Lib.hid hcw
              have HW0 := Lib.hid hw0
              have HRG := Lib.hid (fun n (h : n ∈ crossB wd[j]) => crossB_rng h)
              have hL2 := (crossB_len wd[j]).1
              have hje1 : (j : Int) + 1 ≤ (wd.size : Int) := by omega
              have hje2 : (j : Int) ≤ (j : Int) + 1 := by omega
              clear hP hcw hw0
              go_wp2_with fail
              refine (progCrossings_any (wd.extract j (j + 1)) HW0.out).mono ?_
              rw [HCW.out]
              rintro e w6 ⟨lA, lc, rfl, hI, hlA, hb6⟩
              generalize crossB wd[j] = L at *
              have hll := hI.len
              have hlc := hI.cap
              unfold maxLen at hlc
              by_cases hL0 : L = []
              · have hM6 := hM.grow hCB hLB hb6
                have HN2 := Lib.hid (show S1 (j + 1) = s1 by rw [HN.out, hL0]; rfl)
                have hlz : L.length ≤ 0 := by rw [hL0]; exact Nat.le_refl _
                have hlz2 : ¬ ((0 : Int) < (L.length : Int)) := by omega
                clear hL0 hM hI
                go_wp2_with fail
                refine wp_loop_rounds 1 ?_
                rw [rounds_succ]
                go_wp2_with fail
                go_roundw
                case rel => exact ⟨j + 1, cA5, cc5, pA5, pc5, by omega, by go_num, by rw [HN2.out]; exact hM6, by rw [HN2.out]; exact hok, by rw [HN2.out]; omega⟩
                case measure => simp [intOf]; omega
              · obtain ⟨lb, lo, hlA2, hlb, -⟩ : ∃ b off, lA = some ⟨b, off, none⟩ ∧ b < w6.heap.size ∧ True := by
                  rcases hI.rows with h | ⟨b, off, e, hb, -⟩
                  · exact absurd (by simpa using h) hL0
                  · exact ⟨b, off, e, hb, trivial⟩
                subst hlA2
                have hM6 := hM.more hCB hLB hb6 (g := lb) ⟨hlA lb lo rfl, hlb⟩
                have HE6 := Lib.hid (fun b (hb : b ∈ [wq.heap.size, (wq.heap.size + 1), (wq.heap.size + 1 + 1)]) => (hM.grow hCB hLB hb6).boxes b hb)
                have di6 := hM6.box (b := wq.heap.size) (by simp) 0 ((hM.grow hCB hLB hb6).box (b := wq.heap.size) (by simp) 0 di)
                have dm6 := hM6.box (b := (wq.heap.size + 1 + 1)) (by simp) 0 ((hM.grow hCB hLB hb6).box (b := (wq.heap.size + 1 + 1)) (by simp) 0 dm)
                have HL6 := Lib.hid hI
                obtain ⟨S2, hS2⟩ : ∃ S2 : Nat → MkS, S2 = fun m => (L.take m).foldl (crossS (k : Nat) (mid : Nat)) s1 := ⟨_, rfl⟩
                have HM6 := Lib.hid hM6
                have HS2L := Lib.hid (show S1 (j + 1) = S2 L.length by rw [HN.out, hS2]; simp only [List.take_length])
                clear hM hI hL0 hM6 hlA hb6 di dm ci cw cm
                have di := di6
                have dm := dm6
                clear di6 dm6
                go_wp2_with fail
                obtain ⟨wo, hwo⟩ : ∃ wo : World, wo = w6 := ⟨_, rfl⟩
                obtain ⟨wc, rfl⟩ : ∃ wc : World, wc = wr := ⟨_, rfl⟩
                go_loopw [72] (fun i wr7 => ∃ (m : Nat) (cA6 : Option Addr) (cc6 : Nat) (pA6 : Option Addr) (pc6 : Nat), m ≤ L.length ∧ i = .int .i64 m ∧ MkP W3 w6 wr7 W3.heap.size w1.heap.size w2.heap.size [lb, wq.heap.size, (wq.heap.size + 1), (wq.heap.size + 1 + 1)] (2 * s.pairs) (S2 m) cA6 cc6 pA6 pc6 ∧ (S2 m).ok ∧ (S2 m).sz ≤ 40 * k + 2 * j + m) (fun i _ => L.length - (intOf i).toNat)
                case atStart => exact ⟨0, cA5, cc5, pA5, pc5, by omega, rfl, by rw [hS2]; exact HM6.out, by rw [hS2]; exact hok, by rw [hS2]; show s1.sz ≤ _; omega⟩
                case round =>
                  clear HM6 hwo
                  obtain ⟨m, cA6, cc6, pA6, pc6, hm, rfl, hM, hok2, hsz2⟩ := hrel
                  by_cases hml : m < L.length
                  · have HS3 : Hid (S2 (m + 1) = crossS (k : Nat) (mid : Nat) (S2 m) L[m]) := by
                      simp only [hS2]
                      exact Lib.hid (by rw [List.take_succ_eq_append_getElem hml, List.foldl_append]; rfl)
                    generalize hss : S2 m = s2 at *
                    have HSS := Lib.hid hss
                    clear hss
                    obtain ⟨lb', lo', e', hlb, hlm⟩ := (HL6.out.keepB (hM.boxes lb (by simp)).2.2.1).rows.int hml
                    cases e'
                    have hn := HRG.out _ (List.getElem_mem hml)
                    generalize hLn : L[m] = n at *
                    have HLN := Lib.hid hLn
                    clear hLn
                    obtain ⟨q, hq⟩ : ∃ q : Nat, (q : Int) = (mid : Int) - 2 + max n (-n) := ⟨((mid : Int) - 2 + max n (-n)).toNat, by omega⟩
                    have hq47 : q < 47 := by omega
                    have hqd : crossQ mid n = q := by unfold crossQ; omega
                    have HQ := Lib.hid hq
                    have HQD := Lib.hid hqd
                    clear hq hqd
                    have aq := hM.line.cell (k := q) (by omega)
                    have bq := hM.line.cell (k := q + 1) (by omega)
                    have ci := hM.box (b := wq.heap.size) (by simp) 0 di
                    have cm := hM.box (b := (wq.heap.size + 1 + 1)) (by simp) 0 dm
                    have hmli : (m : Int) < (L.length : Int) := by omega
                    have hgr : w2.heap.size < wr.heap.size := by have := hM.size; omega
                    have hgc : w1.heap.size < wr.heap.size := by have := hM.size; omega
                    have hgi := (hM.boxes wq.heap.size (by simp)).2.1
                    have c1 := hM.c1
                    have cf := hM.fr 1
                    have hw0 : IntKind.i64.wrap ((mid : Int) - 2) = (mid : Int) - 2 := IntWalk.i64_in _ (by omega)
                    have hw1 : IntKind.i64.wrap ((q : Int) + 1) = (q : Int) + 1 := IntWalk.i64_in _ (by omega)
                    have hw2 : (0 : Int) ≤ (q : Int) + 1 := by omega
                    have hw3 : ((q : Int) + 1).toNat = q + 1 := by omega
                    have hq4 : (q : Int) < 48 := by omega
                    have hq5 : (q : Int) + 1 < 48 := by omega
                    by_cases hneg : n < 0
                    · have hqe : (mid : Int) - 2 + max n (-n) = (q : Int) := HQ.out.symm
                      go_wp2_with fail
                      have HM := Lib.hid hM
                      clear hM
                      obtain ⟨a0, ha0⟩ : ∃ a0, s2.line.getD q 0 = a0 := ⟨_, rfl⟩
                      obtain ⟨a1, ha1⟩ : ∃ a1, s2.line.getD (q + 1) 0 = a1 := ⟨_, rfl⟩
                      rw [ha0] at aq
                      rw [ha1] at bq
                      have HA0 := Lib.hid ha0
                      have HA1 := Lib.hid ha1
                      clear ha0 ha1 hqe
                      go_region
                      obtain ⟨i1, hi1, hz0, hz1, hz2⟩ := info_parts info_cross
                      have hszc : s2.crosses.length ≤ 100000 := by unfold MkS.sz at hsz2; omega
                      have hown := Lib.hid HM.out.crosses
                      clear ci cm aq bq
                      go_wp2_with (refine wpList_append_lies _ rfl (.tmp 102) (.tmp 104) 33 rfl W3.heap.size 66 i1 (.agg #[.int .i64 0, .int .i64 0, .int .i64 0, .int .i64 0]) 4 32 Try.underlying33 hi1 hz0 hz1 hz2 rfl (by omega) (.slice cA6 s2.crosses.length cc6) s2.crosses.length (crossCells s2.crosses) rfl ?hown ⟨wr.heap.size + 1, 0, none⟩ 1 1 [.int .i64 (k : Nat), .int .i64 q, .int .i64 a1, .int .i64 a0] ?hx rfl ?hnews (cross_ones ⟨(k : Nat), q, a1, a0⟩) (by omega) (by unfold maxLen; omega) (by omega) ?hbs _ rfl ?hcont)
                      case hown => exact owns_alloc_drew2 (hown.out.alloc _) _
                      case hx => rfl
                      case hnews => exact lit_four2 _ _ _ _ _ _ _
                      case hbs => have := HM.out.size; simp; omega
                      case hcont =>
                      intro cg cap w8 hown8 hgr8 hor8 _
                      have hM8 := Lib.hid (HM.out.cross hCB hLB hne (((below_box _).trans ((below_box _).mono (by simp))).drew) ⟨(k : Nat), q, a1, a0⟩ hown8 hgr8 (hor8.imp id fun e => e.trans (by simp [World.drew])))
                      have hlow : w8.heap[w1.heap.size]? = wr.heap[w1.heap.size]? := (hgr8.block _ (by simp; omega) fun e => by have := (HM.out.crosses.lt _ e.symm).1; omega).trans ((((below_box _).trans ((below_box _).mono (by simp))).drew).block _ hgc)
                      have hc8 := (World.cell?_of_block (a := ⟨w1.heap.size, 1, none⟩) hlow).trans c1
                      have hf8 := (World.frozen?_of_block (a := ⟨w1.heap.size, 1, none⟩) hlow).trans cf
                      have hs8 : w1.heap.size < w8.heap.size := by have := hgr8.size; simp at this; omega
                      clear hown8 hgr8 hor8 hlow c1 cf hown
                      go_wp2_with fail
                      refine (swap_any _ _ q s2.line hM8.out.line (by omega)).mono ?_
                      rintro e w10 ⟨rfl, hL10, hg10⟩
                      have hM10 := hM8.out.swap hCB hLB hne hL10 hg10
                      have hce : crossS (k : Nat) (mid : Nat) s2 n = ⟨s2.crosses ++ [⟨(k : Nat), q, a1, a0⟩], s2.pins, swapL s2.line q⟩ := by
                        unfold crossS crossX
                        rw [HQD.out, HA0.out, HA1.out, if_pos hneg]
                      have HMX : Hid (MkP W3 w6 w10 W3.heap.size w1.heap.size w2.heap.size [lb, wq.heap.size, (wq.heap.size + 1), (wq.heap.size + 1 + 1)] (2 * s.pairs) (S2 (m + 1)) (some ⟨cg, 0, none⟩) cap pA6 pc6) := by
                        rw [HS3.out, hce]
                        exact hM10
                      have HOK := Lib.hid (cross_ok hok2 (i := (k : Nat)) (mid := (mid : Nat)) (n := n) (by omega) (by rw [HQD.out]; omega))
                      clear hM10 hL10 hg10 hce hc8 hf8
                      go_wp2_with fail
                      go_roundw
                      case rel => exact ⟨m + 1, some ⟨cg, 0, none⟩, cap, pA6, pc6, by omega, by go_num, HMX.out, by rw [HS3.out]; exact HOK.out.1, by rw [HS3.out, HOK.out.2]; omega⟩
                      case measure => simp [intOf]; omega
                    · have hqe : (mid : Int) - 2 + max n (-n) = (q : Int) := HQ.out.symm
                      go_wp2_with fail
                      have HM := Lib.hid hM
                      clear hM
                      obtain ⟨a0, ha0⟩ : ∃ a0, s2.line.getD q 0 = a0 := ⟨_, rfl⟩
                      obtain ⟨a1, ha1⟩ : ∃ a1, s2.line.getD (q + 1) 0 = a1 := ⟨_, rfl⟩
                      rw [ha0] at aq
                      rw [ha1] at bq
                      have HA0 := Lib.hid ha0
                      have HA1 := Lib.hid ha1
                      clear ha0 ha1 hqe
                      go_region
                      obtain ⟨i1, hi1, hz0, hz1, hz2⟩ := info_parts info_cross
                      have hszc : s2.crosses.length ≤ 100000 := by unfold MkS.sz at hsz2; omega
                      have hown := Lib.hid HM.out.crosses
                      clear ci cm aq bq
                      go_wp2_with (refine wpList_append_lies _ rfl (.tmp 102) (.tmp 104) 33 rfl W3.heap.size 66 i1 (.agg #[.int .i64 0, .int .i64 0, .int .i64 0, .int .i64 0]) 4 32 Try.underlying33 hi1 hz0 hz1 hz2 rfl (by omega) (.slice cA6 s2.crosses.length cc6) s2.crosses.length (crossCells s2.crosses) rfl ?hown ⟨wr.heap.size + 1, 0, none⟩ 1 1 [.int .i64 (k : Nat), .int .i64 q, .int .i64 a0, .int .i64 a1] ?hx rfl ?hnews (cross_ones ⟨(k : Nat), q, a0, a1⟩) (by omega) (by unfold maxLen; omega) (by omega) ?hbs _ rfl ?hcont)
                      case hown => exact owns_alloc_drew2 (hown.out.alloc _) _
                      case hx => rfl
                      case hnews => exact lit_four2 _ _ _ _ _ _ _
                      case hbs => have := HM.out.size; simp; omega
                      case hcont =>
                      intro cg cap w8 hown8 hgr8 hor8 _
                      have hM8 := Lib.hid (HM.out.cross hCB hLB hne (((below_box _).trans ((below_box _).mono (by simp))).drew) ⟨(k : Nat), q, a0, a1⟩ hown8 hgr8 (hor8.imp id fun e => e.trans (by simp [World.drew])))
                      have hlow : w8.heap[w1.heap.size]? = wr.heap[w1.heap.size]? := (hgr8.block _ (by simp; omega) fun e => by have := (HM.out.crosses.lt _ e.symm).1; omega).trans ((((below_box _).trans ((below_box _).mono (by simp))).drew).block _ hgc)
                      have hc8 := (World.cell?_of_block (a := ⟨w1.heap.size, 1, none⟩) hlow).trans c1
                      have hf8 := (World.frozen?_of_block (a := ⟨w1.heap.size, 1, none⟩) hlow).trans cf
                      have hs8 : w1.heap.size < w8.heap.size := by have := hgr8.size; simp at this; omega
                      clear hown8 hgr8 hor8 hlow c1 cf hown
                      go_wp2_with fail
                      refine (swap_any _ _ q s2.line hM8.out.line (by omega)).mono ?_
                      rintro e w10 ⟨rfl, hL10, hg10⟩
                      have hM10 := hM8.out.swap hCB hLB hne hL10 hg10
                      have hce : crossS (k : Nat) (mid : Nat) s2 n = ⟨s2.crosses ++ [⟨(k : Nat), q, a0, a1⟩], s2.pins, swapL s2.line q⟩ := by
                        unfold crossS crossX
                        rw [HQD.out, HA0.out, HA1.out, if_neg (by omega)]
                      have HMX : Hid (MkP W3 w6 w10 W3.heap.size w1.heap.size w2.heap.size [lb, wq.heap.size, (wq.heap.size + 1), (wq.heap.size + 1 + 1)] (2 * s.pairs) (S2 (m + 1)) (some ⟨cg, 0, none⟩) cap pA6 pc6) := by
                        rw [HS3.out, hce]
                        exact hM10
                      have HOK := Lib.hid (cross_ok hok2 (i := (k : Nat)) (mid := (mid : Nat)) (n := n) (by omega) (by rw [HQD.out]; omega))
                      clear hM10 hL10 hg10 hce hc8 hf8
                      go_wp2_with fail
                      go_roundw
                      case rel => exact ⟨m + 1, some ⟨cg, 0, none⟩, cap, pA6, pc6, by omega, by go_num, HMX.out, by rw [HS3.out]; exact HOK.out.1, by rw [HS3.out, HOK.out.2]; omega⟩
                      case measure => simp [intOf]; omega
                  · obtain rfl : m = L.length := by omega
                    have hki : ¬ ((L.length : Int) < (L.length : Int)) := by omega
                    have hMb := Lib.hid (hM.less (S' := [wq.heap.size, (wq.heap.size + 1), (wq.heap.size + 1 + 1)]) (W1' := W4) (fun b hb => List.mem_cons_of_mem _ hb) (fun b hb => (HE6.out b hb).2.2.1))
                    clear hM
                    go_wp2_with fail
                    go_roundw
                    case rel => exact ⟨j + 1, cA6, cc6, pA6, pc6, by omega, by go_num, by rw [HS2L.out]; exact hMb.out, by rw [HS2L.out]; exact hok2, by rw [HS2L.out]; omega⟩
                    case measure => simp [intOf]; omega
          · obtain rfl : j = wd.size := by omega
            have hki : ¬ ((wd.size : Int) < (wd.size : Int)) := by omega
            have hMb := Lib.hid (hM.close W3)
            clear hM
            go_wp2_with fail
            go_roundw
            case rel => exact ⟨k + 1, cA5, cc5, pA5, pc5, by omega, by go_num, by rw [HNX.out]; exact hMb.out, by rw [HNX.out]; exact hok, by rw [HNX.out]; omega⟩
            case measure => simp [intOf]; omega
      · have hwd0 : wd.size = 0 := by rw [Lib.size_eq, ← Lib.toList_data, List.isEmpty_iff.1 hem]; rfl
        have hps : (makeK s.works k).pins.length ≤ 100000 := by unfold MkS.sz at hsz; omega
        have HOK := Lib.hid (pin_ok hok (i := (k : Nat)) (mid := (mid : Nat)) (by omega) (by omega))
        have HNX := Lib.hid (show makeK s.works (k + 1) = pinS (k : Nat) (mid : Nat) (makeK s.works k) by
          have e1 : s.works.getD k default = s.works[k] := by simp [hlt]
          show workS (k : Nat) (makeK s.works k) (s.works.getD k default) = _
          rw [e1]
          unfold workS startS
          rw [HKD.out, HAT.out, HWDE.out, if_pos rfl, HMID.out, List.eq_nil_of_length_eq_zero (show wd.data.toList.length = 0 by simpa using hwd0)]
          rfl)
        have ci := di
        have cm := dm
        have cw := dw
        have hwl0 : wd.size ≤ 0 := by omega
        have hwl1 : ¬ ((0 : Int) < (wd.size : Int)) := by omega
        clear hwd0 hem
        go_wp2_with fail
        refine (pin_any hM4 hCB hLB hne (IB := wr.heap.size) (MB := (wr.heap.size + 1 + 1)) (by simp) (by simp) ci cm (by omega) hps).mono ?_
        rintro e w6 ⟨rfl, pA6, pc6, hM6⟩
        have cw6 := hM6.box (b := (wr.heap.size + 1)) (by simp) 2 dw
        have hMb := Lib.hid (hM6.close W3)
        clear hM4 hM6
        go_wp2_with fail
        refine wp_loop_rounds 1 ?_
        rw [rounds_succ]
        go_wp2_with fail
        go_roundw
        case rel => exact ⟨k + 1, cA, cc, pA6, pc6, by omega, by go_num, by rw [HNX.out]; exact hMb.out, by rw [HNX.out]; exact HOK.out.1, by rw [HNX.out, HOK.out.2]; omega⟩
        case measure => simp [intOf]; omega
    · obtain rfl : k = s.works.length := by omega
      have hki : ¬ ((s.works.length : Int) < (s.works.length : Int)) := by omega
      have hmc : makeC s = ⟨2 * s.pairs, (makeK s.works s.works.length).crosses, (makeK s.works s.works.length).pins⟩ := rfl
      generalize hms : makeK s.works s.works.length = ms at *
      have HMC := Lib.hid hmc
      clear hmc hms
      have hR := hM.keep (w.heap.size + 1) (by omega) (by omega) (by omega)
      have r0 := (World.cell?_of_block (a := ⟨w.heap.size + 1, 0, none⟩) hR).trans R0.out
      have r1 := (World.cell?_of_block (a := ⟨w.heap.size + 1, 1, none⟩) hR).trans R1.out
      have r2 := (World.cell?_of_block (a := ⟨w.heap.size + 1, 2, none⟩) hR).trans R2.out
      have rf0 := (World.frozen?_of_block (a := ⟨w.heap.size + 1, 0, none⟩) hR).trans (RF.out 0)
      have rf1 := (World.frozen?_of_block (a := ⟨w.heap.size + 1, 1, none⟩) hR).trans (RF.out 1)
      have rf2 := (World.frozen?_of_block (a := ⟨w.heap.size + 1, 2, none⟩) hR).trans (RF.out 2)
      have q0 := hM.c0
      have q1 := hM.c1
      have q2 := hM.c2
      have HBE : Hid (Below w.heap.size w (((wr.setCell ⟨w.heap.size + 1, 0, none⟩ (.int .i64 (2 * s.pairs))).setCell ⟨w.heap.size + 1, 1, none⟩ (.slice cA ms.crosses.length cc)).setCell ⟨w.heap.size + 1, 2, none⟩ (.slice pA ms.pins.length pc))) := ((hBr.setCell (p := ⟨w.heap.size + 1, 0, none⟩) (by simp) _).setCell (p := ⟨w.heap.size + 1, 1, none⟩) (by simp) _).setCell (p := ⟨w.heap.size + 1, 2, none⟩) (by simp) _
      have hkp : ∀ k, k ≠ w.heap.size + 1 → (((wr.setCell ⟨w.heap.size + 1, 0, none⟩ (.int .i64 (2 * s.pairs))).setCell ⟨w.heap.size + 1, 1, none⟩ (.slice cA ms.crosses.length cc)).setCell ⟨w.heap.size + 1, 2, none⟩ (.slice pA ms.pins.length pc)).heap[k]? = wr.heap[k]? := fun k hk => (Below.heap_setCell _ _ _ _ (by simpa using hk)).trans ((Below.heap_setCell _ _ _ _ (by simpa using hk)).trans (Below.heap_setCell _ _ _ _ (by simpa using hk)))
      have HC := Lib.hid (rows_of_ownsG Cross.cells 4 (fun _ => rfl) (owns_keep (w' := (((wr.setCell ⟨w.heap.size + 1, 0, none⟩ (.int .i64 (2 * s.pairs))).setCell ⟨w.heap.size + 1, 1, none⟩ (.slice cA ms.crosses.length cc)).setCell ⟨w.heap.size + 1, 2, none⟩ (.slice pA ms.pins.length pc))) hM.crosses (fun k hk => hkp k (by have := (hM.crosses.lt k hk).1; omega))))
      have HP := Lib.hid (rows_of_ownsG Pin.cells 4 (fun _ => rfl) (owns_keep (w' := (((wr.setCell ⟨w.heap.size + 1, 0, none⟩ (.int .i64 (2 * s.pairs))).setCell ⟨w.heap.size + 1, 1, none⟩ (.slice cA ms.crosses.length cc)).setCell ⟨w.heap.size + 1, 2, none⟩ (.slice pA ms.pins.length pc))) hM.pins (fun k hk => hkp k (by have := (hM.pins.lt k hk).1; omega))))
      have HRD : Hid (ClothRd (((wr.setCell ⟨w.heap.size + 1, 0, none⟩ (.int .i64 (2 * s.pairs))).setCell ⟨w.heap.size + 1, 1, none⟩ (.slice cA ms.crosses.length cc)).setCell ⟨w.heap.size + 1, 2, none⟩ (.slice pA ms.pins.length pc)) cA cc pA pc (makeC s)) := by
        rw [HMC.out]
        exact ⟨HC.out.1, HC.out.2.1, HC.out.2.2, HP.out.1, HP.out.2.1, HP.out.2.2, ⟨show I64 (2 * s.pairs) by unfold I64; omega, hok.crosses, hok.pins⟩⟩
      have E0 := Lib.hid (show (((wr.setCell ⟨w.heap.size + 1, 0, none⟩ (.int .i64 (2 * s.pairs))).setCell ⟨w.heap.size + 1, 1, none⟩ (.slice cA ms.crosses.length cc)).setCell ⟨w.heap.size + 1, 2, none⟩ (.slice pA ms.pins.length pc)).cell? ⟨w.heap.size + 1, 0, none⟩ = some (.int .i64 (2 * s.pairs)) by go_simp)
      have E1 := Lib.hid (show (((wr.setCell ⟨w.heap.size + 1, 0, none⟩ (.int .i64 (2 * s.pairs))).setCell ⟨w.heap.size + 1, 1, none⟩ (.slice cA ms.crosses.length cc)).setCell ⟨w.heap.size + 1, 2, none⟩ (.slice pA ms.pins.length pc)).cell? ⟨w.heap.size + 1, 1, none⟩ = some (.slice cA ms.crosses.length cc) by go_simp)
      have E2 := Lib.hid (show (((wr.setCell ⟨w.heap.size + 1, 0, none⟩ (.int .i64 (2 * s.pairs))).setCell ⟨w.heap.size + 1, 1, none⟩ (.slice cA ms.crosses.length cc)).setCell ⟨w.heap.size + 1, 2, none⟩ (.slice pA ms.pins.length pc)).cell? ⟨w.heap.size + 1, 2, none⟩ = some (.slice pA ms.pins.length pc) by go_simp)
      clear hM hkp hR hBr
      go_wp2_with fail
      generalize (((wr.setCell ⟨w.heap.size + 1, 0, none⟩ (.int .i64 (2 * s.pairs))).setCell ⟨w.heap.size + 1, 1, none⟩ (.slice cA ms.crosses.length cc)).setCell ⟨w.heap.size + 1, 2, none⟩ (.slice pA ms.pins.length pc)) = W9 at *
      have e0 := E0.out
      have e1 := E1.out
      have e2 := E2.out
      refine bodyPost_ret (v := .tuple #[clothVal cA cc pA pc (makeC s), .int .i64 0]) (by rw [HMC.out]; simp [results, Try.results6, go_sem, e0, e1, e2]) rfl ⟨cA, cc, pA, pc, rfl, HRD.out, HBE.out⟩
end Go.Proofs.Ytegbbkmppphddaa
