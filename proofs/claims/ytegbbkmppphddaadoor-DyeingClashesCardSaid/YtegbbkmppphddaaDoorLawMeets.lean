/- The law DyeingMeets, for every task and list. -/
import Derived.Test.YtegbbkmppphddaaDoorLaw34
import Derived.Test.YtegbbkmppphddaaDoorMeetsW
import Derived.Test.YtegbbkmppphddaaDoorRefMeets
import Derived.Test.YtegbbkmppphddaaDoorDyCheckAny
set_option linter.unusedVariables false
set_option linter.unusedSimpArgs false
namespace Go.Proofs.YtegbbkmppphddaaDoor
open Go.RowKit

set_option maxRecDepth 100000 in
set_option maxHeartbeats 8000000 in
theorem law_meets {w : World} {cA : Option Addr} {cc : Nat} {pA : Option Addr} {pc : Nat} {wA : Option Addr} {wc : Nat} {uA : Option Addr} {uc : Nat} {t : Task} (h : TaskRd w cA cc pA pc wA wc uA uc t)
    {lA : Option Addr} {lc : Nat} {l : List Int} (hl : IntsRd w lA lc l) (hT : TabW w) :
    Calls Tryd.prog 8 #[taskVal cA cc pA pc wA wc uA uc t, .slice lA l.length lc] w fun e w' => e = .returned (.bool true) ∧ Below w.heap.size w w' := by
  go_enter Tryd.func8, Tryd.ntmps8
  go_wp2_with fail
  have hbx := below_box (w := w) (.cells #[.int .i64 t.cloth.threads, .slice cA t.cloth.crosses.length cc, .slice pA t.cloth.pins.length pc, .slice wA t.wishes.length wc, .slice uA t.unlike.length uc, .int .i64 t.s0, .int .i64 t.s1, .int .i64 t.s2, .int .i64 t.s3, .int .i64 t.s4, .int .i64 t.s5] 30)
  have hBo := taskBox_box w cA cc pA pc wA wc uA uc t 30
  have h := h.below hbx
  have hl := hl.below hbx
  have hT := hT.below hbx
  refine (far_any h).mono ?_
  rintro e w1 ⟨⟨b, rfl⟩, hb1⟩
  have hBo := hBo.below hb1
  have h := h.below hb1
  have hl := hl.below hb1
  have hT := hT.below hb1
  have hB := hbx.trans (hb1.mono hbx.size)
  have hll := hl.len
  have hlm := hl.cap
  unfold maxLen at hlm
  clear hb1 hbx
  obtain ⟨hBlt, z0, z1, z2, z3, z4, z5, z6, z7, z8, z9, z10⟩ := id hBo
  cases b
  case true =>
    go_wp2_with fail
    refine (shown_any hT).mono ?_
    rintro e w2 ⟨rfl, hb2⟩
    have hB := hB.trans (hb2.mono hB.size)
    go_wp2_with fail
    exact bodyPost_ret (by simp [results, Tryd.f8, go_sem]) rfl ⟨rfl, hB⟩
  case false =>
    by_cases h100 : (100 : Int) < (l.length : Int)
    · go_wp2_with fail
      refine (shown_any hT).mono ?_
      rintro e w2 ⟨rfl, hb2⟩
      have hB := hB.trans (hb2.mono hB.size)
      go_wp2_with fail
      exact bodyPost_ret (by simp [results, Tryd.f8, go_sem]) rfl ⟨rfl, hB⟩
    · go_wp2_with fail
      refine (dymeets_any h hl).mono ?_
      rintro e w2 ⟨rfl, hb2⟩
      have hBo := hBo.below hb2
      have h := h.below hb2
      have hl := hl.below hb2
      have hT := hT.below hb2
      have hB := hB.trans (hb2.mono hB.size)
      clear hb2 z0 z1 z2 z3 z4 z5 z6 z7 z8 z9 z10 hBlt
      obtain ⟨hBlt, z0, z1, z2, z3, z4, z5, z6, z7, z8, z9, z10⟩ := id hBo
      go_wp2_with fail
      refine (refmeets_any h hl).mono ?_
      rintro e wr ⟨rfl, hb3⟩
      have hBo := hBo.below hb3
      have h := h.below hb3
      have hT := hT.below hb3
      have hB := hB.trans (hb3.mono hB.size)
      clear hb3 z0 z1 z2 z3 z4 z5 z6 z7 z8 z9 z10 hBlt
      obtain ⟨hBlt, z0, z1, z2, z3, z4, z5, z6, z7, z8, z9, z10⟩ := id hBo
      have hck := fun w' (hb : Below wr.heap.size wr w') => dycheck_any (h.below hb)
      have hrk := fun w' (hb : Below wr.heap.size wr w') => reftask_any (h.below hb)
      have hsh := fun w' (hb : Below wr.heap.size wr w') => shown_any (hT.below hb)
      generalize taskB t = tb at *
      generalize (meetsR t l).1 = mb at *
      generalize (meetsR t l).2 = me at *
      have HCK := Lib.hid hck
      have HRK := Lib.hid hrk
      have HSH := Lib.hid hsh
      clear hck hrk hsh
      go_wp2_with fail
      go_region_held3 (fun w' => Below wr.heap.size wr w' ∧ (∀ b o, b < wr.heap.size → w'.cell? ⟨b, o, none⟩ = wr.cell? ⟨b, o, none⟩)) (first | exact held_drew _ | assumption)
        (first
          | (go_at_call 20; refine (HCK.out _ ?_).mono ?_; (first | exact (held_drew _).1 | exact And.left (by assumption)); rintro e w2 ⟨rfl, hq⟩; have hq1 := held_step (wr := wr) (by first | exact held_drew _ | assumption) hq; clear hq)
          | (go_at_call 16; refine (HRK.out _ ?_).mono ?_; (first | exact (held_drew _).1 | exact And.left (by assumption)); rintro e w3 ⟨rfl, hq⟩; have hq2 := held_step (wr := wr) (by first | exact held_drew _ | assumption) hq; clear hq)
          | (go_at_call 10; refine (HSH.out _ ?_).mono ?_; (first | exact (held_drew _).1 | exact And.left (by assumption)); rintro e w4 ⟨rfl, hq⟩; have hq3 := held_step (wr := wr) (by first | exact held_drew _ | assumption) hq; clear hq))
      go_wp2_with fail
      exact bodyPost_ret (by simp [results, Tryd.f8, go_sem]) rfl ⟨rfl, hB.trans (hq3.1.mono hB.size)⟩
end Go.Proofs.YtegbbkmppphddaaDoor
