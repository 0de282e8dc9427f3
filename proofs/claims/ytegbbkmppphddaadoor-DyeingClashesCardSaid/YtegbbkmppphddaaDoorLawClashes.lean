/- The law DyeingClashes, for every task and wish. -/
import Derived.Test.YtegbbkmppphddaaDoorLawsP
import Derived.Test.YtegbbkmppphddaaDoorLawMeets
import Derived.Test.YtegbbkmppphddaaDoorClashL
set_option linter.unusedVariables false
set_option linter.unusedSimpArgs false
namespace Go.Proofs.YtegbbkmppphddaaDoor
open Go.RowKit

theorem ListNew.below {B : Nat} {w w' : World} {v : Value} {l : List Int} (h : ListNew B w v l) (hb : Below w.heap.size w w') : ListNew B w' v l := ⟨h.1.below hb, h.2⟩

set_option maxRecDepth 100000 in
set_option maxHeartbeats 8000000 in
theorem law_clashes {w : World} {cA : Option Addr} {cc : Nat} {pA : Option Addr} {pc : Nat} {wA : Option Addr} {wc : Nat} {uA : Option Addr} {uc : Nat} {t : Task} (h : TaskRd w cA cc pA pc wA wc uA uc t) (hwn : wA = none → wc = 0)
    {x : Wish} (hx : x.wf) (hT : TabW w) :
    Calls Tryd.prog 6 #[taskVal cA cc pA pc wA wc uA uc t, .agg #[.int .i64 x.cross, .int .u8 (x.allowed : Nat)]] w fun e w' => e = .returned (.bool true) ∧ Below w.heap.size w w' := by
  have HWN := Lib.hid hwn
  clear hwn
  have h00 := h
  have hT00 := hT
  go_enter Tryd.func6, Tryd.ntmps6
  go_wp2_with fail
  have hB := below_box2 w (.cells #[.int .i64 t.cloth.threads, .slice cA t.cloth.crosses.length cc, .slice pA t.cloth.pins.length pc, .slice wA t.wishes.length wc, .slice uA t.unlike.length uc, .int .i64 t.s0, .int .i64 t.s1, .int .i64 t.s2, .int .i64 t.s3, .int .i64 t.s4, .int .i64 t.s5] 30) (.cells #[.int .i64 x.cross, .int .u8 (x.allowed : Nat)] 43)
  have hBo := (taskBox_box w cA cc pA pc wA wc uA uc t 30).below (below_box (.cells #[.int .i64 x.cross, .int .u8 (x.allowed : Nat)] 43))
  have hWo : WishBox ((w.alloc (.cells #[.int .i64 t.cloth.threads, .slice cA t.cloth.crosses.length cc, .slice pA t.cloth.pins.length pc, .slice wA t.wishes.length wc, .slice uA t.unlike.length uc, .int .i64 t.s0, .int .i64 t.s1, .int .i64 t.s2, .int .i64 t.s3, .int .i64 t.s4, .int .i64 t.s5] 30)).alloc (.cells #[.int .i64 x.cross, .int .u8 (x.allowed : Nat)] 43)) (w.heap.size + 1) x := ⟨by simp, by simp, by simp⟩
  have hF : ∀ o, ((w.alloc (.cells #[.int .i64 t.cloth.threads, .slice cA t.cloth.crosses.length cc, .slice pA t.cloth.pins.length pc, .slice wA t.wishes.length wc, .slice uA t.unlike.length uc, .int .i64 t.s0, .int .i64 t.s1, .int .i64 t.s2, .int .i64 t.s3, .int .i64 t.s4, .int .i64 t.s5] 30)).alloc (.cells #[.int .i64 x.cross, .int .u8 (x.allowed : Nat)] 43)).frozen? ⟨w.heap.size, o, none⟩ = false := fun o => by simp
  have h := h.below hB
  have hT := hT.below hB
  generalize ((w.alloc (.cells #[.int .i64 t.cloth.threads, .slice cA t.cloth.crosses.length cc, .slice pA t.cloth.pins.length pc, .slice wA t.wishes.length wc, .slice uA t.unlike.length uc, .int .i64 t.s0, .int .i64 t.s1, .int .i64 t.s2, .int .i64 t.s3, .int .i64 t.s4, .int .i64 t.s5] 30)).alloc (.cells #[.int .i64 x.cross, .int .u8 (x.allowed : Nat)] 43)) = W at *
  obtain ⟨hBlt, z0, z1, z2, z3, z4, z5, z6, z7, z8, z9, z10⟩ := id hBo
  refine (far_any h).mono ?_
  rintro e w1 ⟨⟨b, rfl⟩, hb1⟩
  have hwl := h.wlen
  have hwm := h.wcap
  unfold maxLen at hwm
  have hF := fun o => (hb1.frozen (p := ⟨w.heap.size, o, none⟩) hBlt).trans (hF o)
  have hBo := hBo.below hb1
  have h := h.below hb1
  have hT := hT.below hb1
  have hWo := hWo.below hb1
  have hB := hB.trans (hb1.mono hB.size)
  clear hb1 z0 z1 z2 z3 z4 z5 z6 z7 z8 z9 z10 hBlt
  obtain ⟨hBlt, z0, z1, z2, z3, z4, z5, z6, z7, z8, z9, z10⟩ := id hBo
  cases b
  case true =>
    go_wp2_with fail
    refine (shown_any hT).mono ?_
    rintro e w9 ⟨rfl, hb9⟩
    have hB9 := hB.trans (hb9.mono hB.size)
    go_wp2_with fail
    exact bodyPost_ret (by simp [results, Tryd.f6, go_sem]) rfl ⟨rfl, hB9⟩
  case false =>
    by_cases h6 : (6 : Int) < t.cloth.threads
    · go_wp2_with fail
      refine (shown_any hT).mono ?_
      rintro e w9 ⟨rfl, hb9⟩
      have hB9 := hB.trans (hb9.mono hB.size)
      go_wp2_with fail
      exact bodyPost_ret (by simp [results, Tryd.f6, go_sem]) rfl ⟨rfl, hB9⟩
    · have hd6 : decide ((6 : Int) < t.cloth.threads) = false := by simp; omega
      by_cases h10 : (10 : Int) < (t.wishes.length : Int)
      · go_wp2_with fail
        refine (shown_any hT).mono ?_
        rintro e w9 ⟨rfl, hb9⟩
        have hB9 := hB.trans (hb9.mono hB.size)
        go_wp2_with fail
        exact bodyPost_ret (by simp [results, Tryd.f6, go_sem]) rfl ⟨rfl, hB9⟩
      · have hd10 : decide ((10 : Int) < (t.wishes.length : Int)) = false := by simp; omega
        go_wp2_with fail
        refine (reftask_any h).mono ?_
        rintro e wk ⟨rfl, hbc⟩
        have hF := fun o => (hbc.frozen (p := ⟨w.heap.size, o, none⟩) hBlt).trans (hF o)
        have hBo := hBo.below hbc
        have h := h.below hbc
        have hT := hT.below hbc
        have hWo := hWo.below hbc
        have hB := hB.trans (hbc.mono hB.size)
        clear hbc z0 z1 z2 z3 z4 z5 z6 z7 z8 z9 z10 hBlt
        obtain ⟨hBlt, z0, z1, z2, z3, z4, z5, z6, z7, z8, z9, z10⟩ := id hBo
        by_cases h0 : taskB t = 0
        · simp only [h0]
          have hn10 : t.wishes.length ≤ 10 := by omega
          go_wp2_with fail
          refine (dysolve_new h).mono ?_
          rintro e w2 ⟨v, rfl, hv2, hb2⟩
          have hw1s := hBlt
          have hF := fun o => (hb2.frozen (p := ⟨w.heap.size, o, none⟩) hBlt).trans (hF o)
          have hBo := hBo.below hb2
          have h := h.below hb2
          have hT := hT.below hb2
          have hWo := hWo.below hb2
          have hB := hB.trans (hb2.mono hB.size)
          clear hb2 z0 z1 z2 z3 z4 z5 z6 z7 z8 z9 z10 hBlt
          obtain ⟨hBlt, z0, z1, z2, z3, z4, z5, z6, z7, z8, z9, z10⟩ := id hBo
          go_wp2_with fail
          refine (dyclash_any h hT).mono ?_
          rintro e w3 ⟨vc, rfl, hvc, hb3⟩
          have hv2 := hv2.below hb3
          have hF := fun o => (hb3.frozen (p := ⟨w.heap.size, o, none⟩) hBlt).trans (hF o)
          have hBo := hBo.below hb3
          have h := h.below hb3
          have hT := hT.below hb3
          have hWo := hWo.below hb3
          have hB := hB.trans (hb3.mono hB.size)
          clear hb3 z0 z1 z2 z3 z4 z5 z6 z7 z8 z9 z10 hBlt
          obtain ⟨hBlt, z0, z1, z2, z3, z4, z5, z6, z7, z8, z9, z10⟩ := id hBo
          rcases clash_ways h0 hn10 with ⟨r, hs, hc⟩ | ⟨c, hs, hc, hcl, hcp, hc10, hc4, hce⟩
          · rw [hs] at hv2
            rw [hc] at hvc
            simp only [hs, hc]
            obtain ⟨⟨rA, rc, rfl, hr⟩, hrn⟩ := hv2
            have hrn : ∀ a, rA = some a → w.heap.size < a.block := fun a e => Nat.lt_of_lt_of_le hw1s (hrn a _ _ (by rw [e]))
            obtain ⟨kA, kc, rfl, hk⟩ := hvc
            have HWAYS := Lib.hid (wish_ways h0 hs x)
            have HRN := Lib.hid hrn
            clear hs hc h0 hk hrn
            go_wp2_with fail
            refine wp_loop_rounds 1 ?_
            rw [rounds_succ]
            go_upto_region 23 with fail
            obtain ⟨W', rfl⟩ : ∃ W' : World, W' = w3 := ⟨_, rfl⟩
            obtain ⟨hWlt, u0, u1⟩ := id hWo
            have hX3 := hF 3
            have HXB := Lib.hid hBo
            have HBY := Lib.hid hB
            have HTW := Lib.hid h
            obtain ⟨i0, hi0, hz0, hz1, hz2⟩ := info_parts info_wish
            clear hBo hB h hWo hF hT
            refine wp_region_noPanic ?_
            refine wp_region_L (S := (fun w' => Below W'.heap.size W' w' ∧ (∀ b o, b < W'.heap.size → w'.cell? ⟨b, o, none⟩ = W'.cell? ⟨b, o, none⟩))) (L := 8) (by kernel_rfl) ?_
            refine wpAnyL_take 20 (i := 1) (oi := { dst := some 133, op := Op.fieldAddr 30 (Operand.tmp 2) 1, type := 0, pos := "law.go:117", after := #[], guard := none }) (v := ?_) rfl (by kernel_rfl) (by kernel_rfl) (by kernel_rfl) (by kernel_rfl) (by kernel_rfl) (fun _ _ _ h => h) (.inl ⟨by rfl, ?_⟩) (held_drew W') ?_
            rotate_left
            · intro w hSw; (try dsimp only at hSw); go_simp; try (with_reducible rfl)
            try simp only [Act.put, List.setIfInBounds_toArray, List.set_cons_zero, List.set_cons_succ]
            refine wpAnyL_take 20 (i := 2) (oi := { dst := some 134, op := Op.load 26 (Operand.tmp 133), type := 26, pos := "law.go:117", after := #[{ on := 1, ground := Ground.data }], guard := none }) (v := ?_) rfl (by kernel_rfl) (by kernel_rfl) (by kernel_rfl) (by kernel_rfl) (by kernel_rfl) (fun _ _ _ h => h) (.inl ⟨by rfl, ?_⟩) (held_drew W') ?_
            rotate_left
            · intro w hSw; (try dsimp only at hSw); go_simp; try (with_reducible rfl)
            try simp only [Act.put, List.setIfInBounds_toArray, List.set_cons_zero, List.set_cons_succ]
            refine wpAnyL_take 20 (i := 4) (oi := { dst := some 136, op := Op.load 43 (Operand.tmp 3), type := 43, pos := "law.go:117", after := #[], guard := none }) (v := ?_) rfl (by kernel_rfl) (by kernel_rfl) (by kernel_rfl) (by kernel_rfl) (by kernel_rfl) (fun _ _ _ h => h) (.inl ⟨by rfl, ?_⟩) (held_drew W') ?_
            rotate_left
            · intro w hSw; (try dsimp only at hSw); go_simp; try (with_reducible rfl)
            try simp only [Act.put, List.setIfInBounds_toArray, List.set_cons_zero, List.set_cons_succ]
            refine wpAnyL_two (i := 0) (k := 5) (o := { dst := some 132, op := Op.buildSlice 26 0 #[], type := 26, pos := "law.go:117", after := #[], guard := none }) (o' := { dst := some 137, op := Op.buildSlice 26 1 #[(0, Operand.tmp 136)], type := 26, pos := "law.go:117", after := #[{ on := 4, ground := Ground.data }], guard := none }) (by kernel_rfl) rfl rfl (by rfl) (by rfl) (fun K hK => ?_) (fun K hK => ?_)
            focus
              go_simp
              have hqa := held_box W' (.cells #[] 43)
              have hla := own_lit_wish2 (base := W'.heap.size) (e := 43) W' (Nat.le_refl _)
              have hsa : W'.heap.size < ((W'.alloc (.cells #[] 43)).drew).heap.size := by simp
              refine hK _ _ (fun _ => hqa) ?_
              clear hK K
              generalize (W'.alloc (.cells #[] 43)).drew = wa at *
              try simp only [Act.put, List.setIfInBounds_toArray, List.set_cons_zero, List.set_cons_succ]
              refine wpAnyL_two (i := 3) (k := 5) (o := { dst := some 135, op := Op.call { callee := Callee.builtin Builtin.append, args := #[Operand.tmp 132, Operand.tmp 134], argTypes := #[26, 26] }, type := 26, pos := "law.go:117", after := #[{ on := 0, ground := Ground.data }, { on := 2, ground := Ground.data }], guard := none }) (o' := { dst := some 137, op := Op.buildSlice 26 1 #[(0, Operand.tmp 136)], type := 26, pos := "law.go:117", after := #[{ on := 4, ground := Ground.data }], guard := none }) (by kernel_rfl) rfl rfl (by rfl) (by rfl) (fun K hK => ?_) (fun K hK => ?_)
              focus
                refine wp_append_wishes _ (.tmp 132) (.tmp 134) 26 43 i0 rfl Tryd.underlying26 hi0 hz0 hz1 hz2 W'.heap.size (.slice (some ⟨W'.heap.size, 0, none⟩) ([] : List Wish).length 0) [] rfl hla wA wc t.wishes rfl (HTW.out.wishes.below hqa.1) HWN.out (by simp; omega) (Nat.le_of_lt hsa) ?_
                intro L1 A1 c1 w3 hL1 hl3 hgr1 hge1
                have hq3 := heldB_grown (B := W'.heap.size) (wr := W') (Nat.le_refl _) hqa hgr1 hge1
                have hll1 : L1.length = t.wishes.length := by rw [hL1]; simp
                have HL1 := Lib.hid hL1
                have hl1a : L1.length ≤ 30 := by omega
                clear hgr1 hge1 hL1 hll1
                have hsz3 := hq3.1.size
                refine hK _ _ (fun _ => hq3) ?_
                clear hK K
                try simp only [Act.put, List.setIfInBounds_toArray, List.set_cons_zero, List.set_cons_succ]
                refine wpAnyL_one (i := 5) (o := { dst := some 137, op := Op.buildSlice 26 1 #[(0, Operand.tmp 136)], type := 26, pos := "law.go:117", after := #[{ on := 4, ground := Ground.data }], guard := none }) (by kernel_rfl) rfl (by rfl) (fun K hK => ?_)
                go_simp
                have hqb := heldB_alloc (Nat.le_refl _) hq3 (.cells #[.int .i64 x.cross, .int .u8 (x.allowed : Nat)] 43)
                have hcb := cellsAt_lit w3 x 43
                have hlb := hl3.alloc (.cells #[.int .i64 x.cross, .int .u8 (x.allowed : Nat)] 43)
                refine hK _ _ (fun _ => hqb) ?_
                clear hK K hl3
                generalize w3.alloc (.cells #[.int .i64 x.cross, .int .u8 (x.allowed : Nat)] 43) = wb at *
                try simp only [Act.put, List.setIfInBounds_toArray, List.set_cons_zero, List.set_cons_succ]
                refine wpAnyL_one (i := 6) (o := { dst := some 138, op := Op.call { callee := Callee.builtin Builtin.append, args := #[Operand.tmp 135, Operand.tmp 137], argTypes := #[26, 26] }, type := 26, pos := "law.go:117", after := #[{ on := 3, ground := Ground.data }, { on := 5, ground := Ground.data }, { on := 3, ground := Ground.chain }], guard := none }) (by kernel_rfl) rfl (by rfl) (fun K hK => ?_)
                refine wp_append_wish _ (.tmp 135) (.tmp 137) 26 43 i0 rfl Tryd.underlying26 hi0 hz0 hz1 hz2 W'.heap.size (.slice A1 L1.length c1) L1 rfl hlb ⟨w3.heap.size, 0, none⟩ x rfl hcb (by omega) (by have := hqb.1.size; omega) ?_
                intro L2 g2 c2 w5 hL2 hown2 hgr2 hge2 hg2 hgb2
                have hq5 := heldB_grown (B := W'.heap.size) (wr := W') (Nat.le_refl _) hqb hgr2 hge2
                have HL2 := Lib.hid hL2
                have hl2a : L2.length ≤ 31 := by rw [hL2]; simp; omega
                clear hgr2 hge2 hL2 hlb hcb
                refine hK _ _ (fun _ => hq5) ?_
                clear hK K
                have x3 := (hq5.2 w.heap.size 3 hBlt).trans z3
                have f3 := (hq5.1.frozen (p := ⟨w.heap.size, 3, none⟩) hBlt).trans hX3
                try simp only [Act.put, List.setIfInBounds_toArray, List.set_cons_zero, List.set_cons_succ]
                refine wpAnyL_take 20 (i := 7) (oi := { dst := some 139, op := Op.fieldAddr 30 (Operand.tmp 2) 1, type := 0, pos := "law.go:117", after := #[{ on := 0, ground := Ground.phase }, { on := 1, ground := Ground.phase }, { on := 2, ground := Ground.phase }, { on := 3, ground := Ground.phase }, { on := 4, ground := Ground.phase }, { on := 5, ground := Ground.phase }, { on := 6, ground := Ground.phase }], guard := none }) (v := ?_) rfl (by kernel_rfl) (by kernel_rfl) (by kernel_rfl) (by kernel_rfl) (by kernel_rfl) (fun _ _ _ h => h) (.inl ⟨by rfl, ?_⟩) (by assumption) ?_
                rotate_left
                · intro w hSw; (try dsimp only at hSw); go_simp; try (with_reducible rfl)
                try simp only [Act.put, List.setIfInBounds_toArray, List.set_cons_zero, List.set_cons_succ]
                refine wpAnyL_one (i := 8) (o := { dst := none, op := Op.store 26 (Operand.tmp 139) (Operand.tmp 138), type := 0, pos := "law.go:117", after := #[{ on := 7, ground := Ground.data }, { on := 6, ground := Ground.data }, { on := 6, ground := Ground.chain }, { on := 0, ground := Ground.phase }, { on := 1, ground := Ground.phase }, { on := 2, ground := Ground.phase }, { on := 3, ground := Ground.phase }, { on := 4, ground := Ground.phase }, { on := 5, ground := Ground.phase }, { on := 6, ground := Ground.phase }], guard := none }) (by kernel_rfl) rfl (by rfl) (fun K hK => ?_)
                go_simp
                refine hK _ _ (fun hne => absurd rfl hne) ?_
                clear hK K
                try simp only [Act.put, List.setIfInBounds_toArray, List.set_cons_zero, List.set_cons_succ]
                refine wpAnyL_done (by kernel_rfl) ?_ _
                refine NoPanic.normal ?_
              rotate_left 1
              focus
                go_simp
                have hqb := heldB_alloc (Nat.le_refl _) hqa (.cells #[.int .i64 x.cross, .int .u8 (x.allowed : Nat)] 43)
                have hcb := cellsAt_lit wa x 43
                have hlb := hla.alloc (.cells #[.int .i64 x.cross, .int .u8 (x.allowed : Nat)] 43)
                have hsb : wa.heap.size < (wa.alloc (.cells #[.int .i64 x.cross, .int .u8 (x.allowed : Nat)] 43)).heap.size := by simp
                refine hK _ _ (fun _ => hqb) ?_
                clear hK K hla
                generalize wa.alloc (.cells #[.int .i64 x.cross, .int .u8 (x.allowed : Nat)] 43) = wb at *
                try simp only [Act.put, List.setIfInBounds_toArray, List.set_cons_zero, List.set_cons_succ]
                refine wpAnyL_one (i := 3) (o := { dst := some 135, op := Op.call { callee := Callee.builtin Builtin.append, args := #[Operand.tmp 132, Operand.tmp 134], argTypes := #[26, 26] }, type := 26, pos := "law.go:117", after := #[{ on := 0, ground := Ground.data }, { on := 2, ground := Ground.data }], guard := none }) (by kernel_rfl) rfl (by rfl) (fun K hK => ?_)
                refine wp_append_wishes _ (.tmp 132) (.tmp 134) 26 43 i0 rfl Tryd.underlying26 hi0 hz0 hz1 hz2 W'.heap.size (.slice (some ⟨W'.heap.size, 0, none⟩) ([] : List Wish).length 0) [] rfl hlb wA wc t.wishes rfl (HTW.out.wishes.below hqb.1) HWN.out (by simp; omega) (by omega) ?_
                intro L1 A1 c1 w3 hL1 hl3 hgr1 hge1
                have hq3 := heldB_grown (B := W'.heap.size) (wr := W') (Nat.le_refl _) hqb hgr1 hge1
                have hll1 : L1.length = t.wishes.length := by rw [hL1]; simp
                have HL1 := Lib.hid hL1
                have hl1a : L1.length ≤ 30 := by omega
                have hc3 := cellsAt_grown hcb hgr1 (by omega) (by simp [Value.ownBlock]; omega)
                clear hgr1 hge1 hL1 hll1
                have hsz3 := hq3.1.size
                refine hK _ _ (fun _ => hq3) ?_
                clear hK K
                try simp only [Act.put, List.setIfInBounds_toArray, List.set_cons_zero, List.set_cons_succ]
                refine wpAnyL_one (i := 6) (o := { dst := some 138, op := Op.call { callee := Callee.builtin Builtin.append, args := #[Operand.tmp 135, Operand.tmp 137], argTypes := #[26, 26] }, type := 26, pos := "law.go:117", after := #[{ on := 3, ground := Ground.data }, { on := 5, ground := Ground.data }, { on := 3, ground := Ground.chain }], guard := none }) (by kernel_rfl) rfl (by rfl) (fun K hK => ?_)
                refine wp_append_wish _ (.tmp 135) (.tmp 137) 26 43 i0 rfl Tryd.underlying26 hi0 hz0 hz1 hz2 W'.heap.size (.slice A1 L1.length c1) L1 rfl hl3 ⟨wa.heap.size, 0, none⟩ x rfl hc3 (by omega) (by have := hq3.1.size; omega) ?_
                intro L2 g2 c2 w5 hL2 hown2 hgr2 hge2 hg2 hgb2
                have hq5 := heldB_grown (B := W'.heap.size) (wr := W') (Nat.le_refl _) hq3 hgr2 hge2
                have HL2 := Lib.hid hL2
                have hl2a : L2.length ≤ 31 := by rw [hL2]; simp; omega
                clear hgr2 hge2 hL2 hl3 hc3
                refine hK _ _ (fun _ => hq5) ?_
                clear hK K
                have x3 := (hq5.2 w.heap.size 3 hBlt).trans z3
                have f3 := (hq5.1.frozen (p := ⟨w.heap.size, 3, none⟩) hBlt).trans hX3
                try simp only [Act.put, List.setIfInBounds_toArray, List.set_cons_zero, List.set_cons_succ]
                refine wpAnyL_take 20 (i := 7) (oi := { dst := some 139, op := Op.fieldAddr 30 (Operand.tmp 2) 1, type := 0, pos := "law.go:117", after := #[{ on := 0, ground := Ground.phase }, { on := 1, ground := Ground.phase }, { on := 2, ground := Ground.phase }, { on := 3, ground := Ground.phase }, { on := 4, ground := Ground.phase }, { on := 5, ground := Ground.phase }, { on := 6, ground := Ground.phase }], guard := none }) (v := ?_) rfl (by kernel_rfl) (by kernel_rfl) (by kernel_rfl) (by kernel_rfl) (by kernel_rfl) (fun _ _ _ h => h) (.inl ⟨by rfl, ?_⟩) (by assumption) ?_
                rotate_left
                · intro w hSw; (try dsimp only at hSw); go_simp; try (with_reducible rfl)
                try simp only [Act.put, List.setIfInBounds_toArray, List.set_cons_zero, List.set_cons_succ]
                refine wpAnyL_one (i := 8) (o := { dst := none, op := Op.store 26 (Operand.tmp 139) (Operand.tmp 138), type := 0, pos := "law.go:117", after := #[{ on := 7, ground := Ground.data }, { on := 6, ground := Ground.data }, { on := 6, ground := Ground.chain }, { on := 0, ground := Ground.phase }, { on := 1, ground := Ground.phase }, { on := 2, ground := Ground.phase }, { on := 3, ground := Ground.phase }, { on := 4, ground := Ground.phase }, { on := 5, ground := Ground.phase }, { on := 6, ground := Ground.phase }], guard := none }) (by kernel_rfl) rfl (by rfl) (fun K hK => ?_)
                go_simp
                refine hK _ _ (fun hne => absurd rfl hne) ?_
                clear hK K
                try simp only [Act.put, List.setIfInBounds_toArray, List.set_cons_zero, List.set_cons_succ]
                refine wpAnyL_done (by kernel_rfl) ?_ _
                refine NoPanic.normal ?_
            rotate_left 2
            focus
              go_simp
              have hqa := held_box W' (.cells #[.int .i64 x.cross, .int .u8 (x.allowed : Nat)] 43)
              have hca := cellsAt_alloc_drew W' x 43
              have hsa : W'.heap.size < ((W'.alloc (.cells #[.int .i64 x.cross, .int .u8 (x.allowed : Nat)] 43)).drew).heap.size := by simp
              refine hK _ _ (fun _ => hqa) ?_
              clear hK K
              generalize (W'.alloc (.cells #[.int .i64 x.cross, .int .u8 (x.allowed : Nat)] 43)).drew = wa at *
              try simp only [Act.put, List.setIfInBounds_toArray, List.set_cons_zero, List.set_cons_succ]
              refine wpAnyL_one (i := 0) (o := { dst := some 132, op := Op.buildSlice 26 0 #[], type := 26, pos := "law.go:117", after := #[], guard := none }) (by kernel_rfl) rfl (by rfl) (fun K hK => ?_)
              go_simp
              have hqb := heldB_alloc (Nat.le_refl _) hqa (.cells #[] 43)
              have hcb := cellsAt_alloc hca hsa (.cells #[] 43)
              have hlb := own_lit_wish3 (base := W'.heap.size) (e := 43) wa (Nat.le_of_lt hsa)
              have hsb : wa.heap.size < (wa.alloc (.cells #[] 43)).heap.size := by simp
              refine hK _ _ (fun _ => hqb) ?_
              clear hK K hca
              generalize wa.alloc (.cells #[] 43) = wb at *
              try simp only [Act.put, List.setIfInBounds_toArray, List.set_cons_zero, List.set_cons_succ]
              refine wpAnyL_one (i := 3) (o := { dst := some 135, op := Op.call { callee := Callee.builtin Builtin.append, args := #[Operand.tmp 132, Operand.tmp 134], argTypes := #[26, 26] }, type := 26, pos := "law.go:117", after := #[{ on := 0, ground := Ground.data }, { on := 2, ground := Ground.data }], guard := none }) (by kernel_rfl) rfl (by rfl) (fun K hK => ?_)
              refine wp_append_wishes _ (.tmp 132) (.tmp 134) 26 43 i0 rfl Tryd.underlying26 hi0 hz0 hz1 hz2 W'.heap.size (.slice (some ⟨wa.heap.size, 0, none⟩) ([] : List Wish).length 0) [] rfl hlb wA wc t.wishes rfl (HTW.out.wishes.below hqb.1) HWN.out (by simp; omega) (by omega) ?_
              intro L1 A1 c1 w3 hL1 hl3 hgr1 hge1
              have hq3 := heldB_grown (B := W'.heap.size) (wr := W') (Nat.le_refl _) hqb hgr1 hge1
              have hll1 : L1.length = t.wishes.length := by rw [hL1]; simp
              have HL1 := Lib.hid hL1
              have hl1a : L1.length ≤ 30 := by omega
              have hc3 := cellsAt_grown hcb hgr1 (by omega) (by simp [Value.ownBlock]; omega)
              clear hgr1 hge1 hL1 hll1
              have hsz3 := hq3.1.size
              refine hK _ _ (fun _ => hq3) ?_
              clear hK K
              try simp only [Act.put, List.setIfInBounds_toArray, List.set_cons_zero, List.set_cons_succ]
              refine wpAnyL_one (i := 6) (o := { dst := some 138, op := Op.call { callee := Callee.builtin Builtin.append, args := #[Operand.tmp 135, Operand.tmp 137], argTypes := #[26, 26] }, type := 26, pos := "law.go:117", after := #[{ on := 3, ground := Ground.data }, { on := 5, ground := Ground.data }, { on := 3, ground := Ground.chain }], guard := none }) (by kernel_rfl) rfl (by rfl) (fun K hK => ?_)
              refine wp_append_wish _ (.tmp 135) (.tmp 137) 26 43 i0 rfl Tryd.underlying26 hi0 hz0 hz1 hz2 W'.heap.size (.slice A1 L1.length c1) L1 rfl hl3 ⟨W'.heap.size, 0, none⟩ x rfl hc3 (by omega) (by have := hq3.1.size; omega) ?_
              intro L2 g2 c2 w5 hL2 hown2 hgr2 hge2 hg2 hgb2
              have hq5 := heldB_grown (B := W'.heap.size) (wr := W') (Nat.le_refl _) hq3 hgr2 hge2
              have HL2 := Lib.hid hL2
              have hl2a : L2.length ≤ 31 := by rw [hL2]; simp; omega
              clear hgr2 hge2 hL2 hl3 hc3
              refine hK _ _ (fun _ => hq5) ?_
              clear hK K
              have x3 := (hq5.2 w.heap.size 3 hBlt).trans z3
              have f3 := (hq5.1.frozen (p := ⟨w.heap.size, 3, none⟩) hBlt).trans hX3
              try simp only [Act.put, List.setIfInBounds_toArray, List.set_cons_zero, List.set_cons_succ]
              refine wpAnyL_take 20 (i := 7) (oi := { dst := some 139, op := Op.fieldAddr 30 (Operand.tmp 2) 1, type := 0, pos := "law.go:117", after := #[{ on := 0, ground := Ground.phase }, { on := 1, ground := Ground.phase }, { on := 2, ground := Ground.phase }, { on := 3, ground := Ground.phase }, { on := 4, ground := Ground.phase }, { on := 5, ground := Ground.phase }, { on := 6, ground := Ground.phase }], guard := none }) (v := ?_) rfl (by kernel_rfl) (by kernel_rfl) (by kernel_rfl) (by kernel_rfl) (by kernel_rfl) (fun _ _ _ h => h) (.inl ⟨by rfl, ?_⟩) (by assumption) ?_
              rotate_left
              · intro w hSw; (try dsimp only at hSw); go_simp; try (with_reducible rfl)
              try simp only [Act.put, List.setIfInBounds_toArray, List.set_cons_zero, List.set_cons_succ]
              refine wpAnyL_one (i := 8) (o := { dst := none, op := Op.store 26 (Operand.tmp 139) (Operand.tmp 138), type := 0, pos := "law.go:117", after := #[{ on := 7, ground := Ground.data }, { on := 6, ground := Ground.data }, { on := 6, ground := Ground.chain }, { on := 0, ground := Ground.phase }, { on := 1, ground := Ground.phase }, { on := 2, ground := Ground.phase }, { on := 3, ground := Ground.phase }, { on := 4, ground := Ground.phase }, { on := 5, ground := Ground.phase }, { on := 6, ground := Ground.phase }], guard := none }) (by kernel_rfl) rfl (by rfl) (fun K hK => ?_)
              go_simp
              refine hK _ _ (fun hne => absurd rfl hne) ?_
              clear hK K
              try simp only [Act.put, List.setIfInBounds_toArray, List.set_cons_zero, List.set_cons_succ]
              refine wpAnyL_done (by kernel_rfl) ?_ _
              refine NoPanic.normal ?_
            all_goals
              have hX5 := (HXB.out.below hq5.1).setW (some ⟨g2, 0, none⟩) c2 L2
              have hB5 : Below w.heap.size w (w5.setCell ⟨w.heap.size, 3, none⟩ (.slice (some ⟨g2, 0, none⟩) L2.length c2)) := (HBY.out.trans (hq5.1.mono HBY.out.size)).setCell (p := ⟨w.heap.size, 3, none⟩) (by simp) _
              have hR5 := rows_of_owns (owns_keep (w' := w5.setCell ⟨w.heap.size, 3, none⟩ (.slice (some ⟨g2, 0, none⟩) L2.length c2)) hown2 (fun k hk => Below.heap_setCell _ _ _ _ (by have := (hown2.lt k hk).1; simp; omega))) rfl
              have eL : setWT t L2 = wishT t x := by rw [HL2.out, HL1.out]; rfl
              have EL := Lib.hid eL
              clear eL
              have hT5 := (h00.below hB5).setW (by rw [HL2.out, HL1.out]; exact wish_wf_snoc2 h00.wf hx) hR5.1 hR5.2.1 hR5.2.2
              have hr5 := (hr.below hq5.1).setCell (p := ⟨w.heap.size, 3, none⟩) (fun a e => by have := HRN.out a e; simp; omega) (.slice (some ⟨g2, 0, none⟩) L2.length c2)
              have hTb5 := hT00.below hB5
              clear x3 f3 hq5 hown2 hR5 hX3 hBlt z0 z1 z2 z3 z4 z5 z6 z7 z8 z9 z10 hWlt u0 u1
              generalize w5.setCell ⟨w.heap.size, 3, none⟩ (.slice (some ⟨g2, 0, none⟩) L2.length c2) = W5 at *
              obtain ⟨hMlt, y0, y1, y2, y3, y4, y5, y6, y7, y8, y9, y10⟩ := id hX5
              go_wp2_with fail
              refine (dysolve_any hT5).mono ?_
              rintro e w6 ⟨v6, rfl, hv6, hb6⟩
              rw [EL.out] at hv6
              simp only [EL.out]
              have hB6 := hB5.trans (hb6.mono hB5.size)
              have hTb6 := hTb5.below hb6
              rcases HWAYS.out with hne | ⟨m, hsm, h0m, hml, hlex⟩
              · generalize (solveR (wishT t x)).2 = g at *
                have hg1 : (g == 0) = false := by simp [hne]
                have hg2 : (g != 0) = true := by simp [hne]
                clear hne
                go_wp2_with fail
                refine (shown_any hTb6).mono ?_
                rintro e w9 ⟨rfl, hb9⟩
                have hB9 := hB6.trans (hb9.mono hB6.size)
                go_wp2_with fail
                exact bodyPost_ret (by simp [results, Tryd.f6, go_sem]) rfl ⟨rfl, hB9⟩
              · rw [hsm] at hv6
                simp only [hsm]
                obtain ⟨mA, mc, rfl, hm⟩ := hv6
                have hlenB : ((m.length : Int) != (r.length : Int)) = false := by simp [hml]
                have hml1 : r.length ≤ m.length := Nat.le_of_eq hml.symm
                have HLEX := Lib.hid hlex
                have H0M := Lib.hid h0m
                clear hml hlex hsm h0m y0 y1 y2 y3 y4 y5 y6 y7 y8 y9 y10 hMlt
                obtain ⟨hMlt, y0, y1, y2, y3, y4, y5, y6, y7, y8, y9, y10⟩ := hX5.below hb6
                have hT6 := hT5.below hb6
                go_wp2_with fail
                refine (reftask_any hT6).mono ?_
                rintro e w7 ⟨rfl, hb7⟩
                simp only [EL.out, H0M.out]
                have hB7 := hB6.trans (hb7.mono hB6.size)
                have hr7 := (hr5.below hb6).below hb7
                have hm7 := hm.below hb7
                have hT7 := hTb6.below hb7
                clear y0 y1 y2 y3 y4 y5 y6 y7 y8 y9 y10 hMlt
                go_wp2_with fail
                obtain ⟨W, hW⟩ : ∃ W : World, W = w7 := ⟨_, rfl⟩
                have hB : Below w.heap.size w W := by rw [hW]; exact hB7
                have hr : IntsRd W rA rc r := by rw [hW]; exact hr7
                have hm : IntsRd W mA mc m := by rw [hW]; exact hm7
                have hT : TabW W := by rw [hW]; exact hT7
                have hrl := hr.len
                have hrm := hr.cap
                unfold maxLen at hrm
                have hml3 := hm.len
                have hmm3 := hm.cap
                unfold maxLen at hmm3
                clear hB7 hr7 hm7 hT7
                go_loopw [15] (fun i wr => ∃ k : Nat, k ≤ r.length ∧ i = .int .i64 k ∧ Below W.heap.size W wr ∧ ∀ j, j < k → r.getD j 0 = m.getD j 0) (fun i _ => r.length - (intOf i).toNat)
                case atStart => exact ⟨0, Nat.zero_le _, rfl, by rw [hW]; exact Below.refl _ _, fun j hj => absurd hj (Nat.not_lt_zero _)⟩
                case round =>
                  clear hW
                  obtain ⟨k, hk, rfl, hbW, hall⟩ := hrel
                  have hr := hr.below hbW
                  have hm := hm.below hbW
                  have hT := hT.below hbW
                  have hB := hB.trans (hbW.mono hB.size)
                  have HALL := Lib.hid hall
                  clear hall
                  by_cases hkr : k < r.length
                  · have hkl : k < m.length := by omega
                    obtain ⟨rb, ro, rfl, hrb, hrc⟩ := hr.rows.int hkr
                    obtain ⟨lb, lo, rfl, hlb, hlc⟩ := hm.rows.int hkl
                    have hki : (k : Int) < (r.length : Int) := by omega
                    have hkl2 : (k : Int) < (m.length : Int) := by omega
                    have hrg : r.getD k 0 = r[k] := by simp [hkr]
                    have hlg : m.getD k 0 = m[k] := by simp [hkl]
                    have HR := Lib.hid hrg
                    have HL := Lib.hid hlg
                    clear hrg hlg
                    generalize r[k] = a at *
                    generalize m[k] = b at *
                    go_wp2_with fail
                    by_cases hxy : a = b
                    · have HXY := Lib.hid hxy
                      have hxy2 : (a == b) = true := by simp [hxy]
                      clear hxy
                      go_region
                      go_wp2_with fail
                      go_roundw
                      case rel => exact ⟨k + 1, by omega, by go_num, hbW.drew, fun j hj => by
                        rcases Nat.lt_succ_iff_lt_or_eq.1 hj with h1 | h1
                        · exact HALL.out j h1
                        · rw [h1, HR.out, HL.out, HXY.out]⟩
                      case measure => simp [intOf]; omega
                    · have hlt : a < b := by
                        have := HLEX.out k hkr HALL.out (by rw [HR.out, HL.out]; exact hxy)
                        rwa [HR.out, HL.out] at this
                      have hxy2 : (a == b) = false := by simp [hxy]
                      have HSH := Lib.hid (fun w' (hb : Below wr.drew.heap.size wr.drew w') => shown_any ((hT.below (Below.refl _ wr).drew).below hb))
                      have hrc' : wr.drew.cell? ⟨rb, ro + k, none⟩ = some (.int .i64 a) := hrc
                      have hlc' : wr.drew.cell? ⟨lb, lo + k, none⟩ = some (.int .i64 b) := hlc
                      have hB' : Below w.heap.size w wr.drew := hB.drew
                      clear hxy
                      go_region
                      go_wp2_with fail
                      have hrb' : rb < wr.drew.heap.size := hrb
                      have hlb' : lb < wr.drew.heap.size := hlb
                      clear hrc hlc hrb hlb hxy2
                      generalize wr.drew = wd at *
                      have hxy3 : decide (a < b) = true := by simp [hlt]
                      go_region_held3 (fun w' => Below wd.heap.size wd w' ∧ (∀ b o, b < wd.heap.size → w'.cell? ⟨b, o, none⟩ = wd.cell? ⟨b, o, none⟩)) (first | exact held_drew _ | assumption)
                        (first
                          | (go_at_call 10; refine (HSH.out _ ?_).mono ?_; (first | exact (held_drew _).1 | exact And.left (by assumption)); rintro e w4 ⟨rfl, hq⟩; have hq3 := held_step (wr := wd) (by first | exact held_drew _ | assumption) hq; clear hq))
                      go_wp2_with fail
                      exact bodyPost_ret (by simp [results, Tryd.f6, go_sem]) rfl ⟨rfl, hB'.trans (hq3.1.mono hB'.size)⟩
                  · obtain rfl : k = r.length := by omega
                    have hki : ¬ ((r.length : Int) < (r.length : Int)) := by omega
                    go_wp2_with fail
                    refine (shown_any hT).mono ?_
                    rintro e w9 ⟨rfl, hb9⟩
                    have hB9 := hB.trans (hb9.mono hB.size)
                    go_wp2_with fail
                    exact bodyPost_ret (by simp [results, Tryd.f6, go_sem]) rfl ⟨rfl, hB9⟩
          · rw [hs] at hv2
            rw [hc] at hvc
            simp only [hs, hc]
            obtain ⟨⟨rA, rc, rfl, hr⟩, hrn⟩ := hv2
            obtain ⟨kA, kc, hkv0, hkI⟩ := hvc
            have hkI : IntsRd w3 kA kc (natInts c) := hkI
            have hkv : vc = .slice kA c.length kc := by rw [hkv0]; simp
            clear hkv0
            subst hkv
            have HCL := Lib.hid hcl
            have HCP := Lib.hid hcp
            have HC4 := Lib.hid hc4
            have HCE := Lib.hid hce
            have hkl : c.length ≤ kc := by have := hkI.len; rwa [natInts_length] at this
            have hkm := hkI.cap
            unfold maxLen at hkm
            clear hs hc h0 hr hrn hcl hcp hc4 hce
            go_wp2_with fail
            obtain ⟨W, hW⟩ : ∃ W : World, W = w3 := ⟨_, rfl⟩
            have hBo : TaskBox W w.heap.size cA cc pA pc wA wc uA uc t := by rw [hW]; exact hBo
            have h : TaskRd W cA cc pA pc wA wc uA uc t := by rw [hW]; exact h
            have hT : TabW W := by rw [hW]; exact hT
            have hB : Below w.heap.size w W := by rw [hW]; exact hB
            have hkI : IntsRd W kA kc (natInts c) := by rw [hW]; exact hkI
            clear z0 z1 z2 z3 z4 z5 z6 z7 z8 z9 z10 hBlt hF hWo
            go_loopw [9] (fun i wr => ∃ j : Nat, j ≤ c.length ∧ i = .int .i64 j ∧ Below W.heap.size W wr) (fun i _ => c.length - (intOf i).toNat)
            case atStart => exact ⟨0, Nat.zero_le _, rfl, by rw [hW]; exact Below.refl _ _⟩
            case round =>
              clear hW
              obtain ⟨j, hj, rfl, hbW⟩ := hrel
              have hBr := hBo.below hbW
              have hTr := h.below hbW
              have hTb := hT.below hbW
              have hBB := hB.trans (hbW.mono hB.size)
              have hkr := hkI.below hbW
              clear hBo h hT hB hkI
              by_cases hjc : j < c.length
              · obtain ⟨hBlt, _, _, _, z3, _, _, _, _, _, _, _⟩ := id hBr
                obtain ⟨kb, ko, rfl, hkb, hcj⟩ := hkr.rows.int (i := j) (by rw [natInts_length]; exact hjc)
                rw [natInts_get hjc] at hcj
                have hcw := HCL.out _ (List.getElem_mem hjc)
                have hjc2 : (j : Int) < (c.length : Int) := by omega
                by_cases hj0 : j = 0
                · generalize c[j] = cj at *
                  have hd1 : decide ((cj : Int) < 0) = false := by simp
                  have hd2 : decide ((t.wishes.length : Int) ≤ (cj : Int)) = false := by simp; omega
                  have hd3 : decide (t.wishes.length ≤ cj) = false := by simp; omega
                  have hd4 : decide ((0 : Int) < (j : Int)) = false := by simp; omega
                  have hd7 : decide (0 < j) = false := by simp; omega
                  clear hj0
                  go_wp2_with fail
                  refine wp_region_noPanic ?_
                  refine wp_region_held_drew (S := (fun w' => Below wr.heap.size wr w' ∧ (∀ b o, b < wr.heap.size → w'.cell? ⟨b, o, none⟩ = wr.cell? ⟨b, o, none⟩))) (by kernel_rfl) ?_ (fun hHeld => ?_)
                  · exact held_drew _
                  refine wpAnyH_take (i := 0) (oi := { dst := some 65, op := Op.move (Operand.tmp 7), type := 33, pos := "law.go:100", after := #[], guard := none }) (v := ?_) rfl (by kernel_rfl) (by kernel_rfl) (by kernel_rfl) (fun _ _ _ h => h) (.inl ⟨by rfl, ?_⟩) (by assumption) ?_
                  rotate_left
                  · intro w hSw; (try dsimp only at hSw); go_simp; try (with_reducible rfl)
                  try simp only [Act.put, List.setIfInBounds_toArray, List.set_cons_zero, List.set_cons_succ]
                  refine wpAnyH_take (i := 1) (oi := { dst := some 66, op := Op.move (Operand.tmp 9), type := 3, pos := "law.go:100", after := #[], guard := none }) (v := ?_) rfl (by kernel_rfl) (by kernel_rfl) (by kernel_rfl) (fun _ _ _ h => h) (.inl ⟨by rfl, ?_⟩) (by assumption) ?_
                  rotate_left
                  · intro w hSw; (try dsimp only at hSw); go_simp; try (with_reducible rfl)
                  try simp only [Act.put, List.setIfInBounds_toArray, List.set_cons_zero, List.set_cons_succ]
                  refine wpAnyH_take (i := 2) (oi := { dst := some 67, op := Op.indexAddr 33 (Operand.tmp 65) (Operand.tmp 66), type := 0, pos := "law.go:100", after := #[{ on := 0, ground := Ground.data }, { on := 1, ground := Ground.data }], guard := none }) (v := ?_) rfl (by kernel_rfl) (by kernel_rfl) (by kernel_rfl) (fun _ _ _ h => h) (.inl ⟨by rfl, ?_⟩) (by assumption) ?_
                  rotate_left
                  · intro w hSw; (try dsimp only at hSw); go_simp; try (with_reducible rfl)
                  try simp only [Act.put, List.setIfInBounds_toArray, List.set_cons_zero, List.set_cons_succ]
                  refine wpAnyH_take (i := 3) (oi := { dst := some 68, op := Op.load 3 (Operand.tmp 67), type := 3, pos := "law.go:100", after := #[{ on := 2, ground := Ground.data }], guard := none }) (v := ?_) rfl (by kernel_rfl) (by kernel_rfl) (by kernel_rfl) (fun _ _ _ h => h) (.inl ⟨by rfl, ?_⟩) (by assumption) ?_
                  rotate_left
                  · intro w hSw; (try dsimp only at hSw); go_simp; try (with_reducible rfl)
                  try simp only [Act.put, List.setIfInBounds_toArray, List.set_cons_zero, List.set_cons_succ]
                  refine wpAnyH_take (i := 4) (oi := { dst := some 69, op := Op.binOp BinOp.lss 3 (Operand.tmp 68) (Operand.const (Value.int IntKind.i64 0)) 3, type := 4, pos := "law.go:100", after := #[{ on := 3, ground := Ground.data }], guard := none }) (v := ?_) rfl (by kernel_rfl) (by kernel_rfl) (by kernel_rfl) (fun _ _ _ h => h) (.inl ⟨by rfl, ?_⟩) (by assumption) ?_
                  rotate_left
                  · intro w hSw; (try dsimp only at hSw); go_simp; try (with_reducible rfl)
                  try simp only [Act.put, List.setIfInBounds_toArray, List.set_cons_zero, List.set_cons_succ]
                  refine wpAnyH_take (i := 5) (oi := { dst := some 70, op := Op.move (Operand.tmp 69), type := 4, pos := "law.go:100", after := #[{ on := 4, ground := Ground.data }], guard := none }) (v := ?_) rfl (by kernel_rfl) (by kernel_rfl) (by kernel_rfl) (fun _ _ _ h => h) (.inl ⟨by rfl, ?_⟩) (by assumption) ?_
                  rotate_left
                  · intro w hSw; (try dsimp only at hSw); go_simp; try (with_reducible rfl)
                  try simp only [Act.put, List.setIfInBounds_toArray, List.set_cons_zero, List.set_cons_succ]
                  refine wpAnyH_take (i := 6) (oi := { dst := some 71, op := Op.move (Operand.tmp 7), type := 33, pos := "law.go:100", after := #[{ on := 5, ground := Ground.guard }], guard := some (5, false) }) (v := ?_) rfl (by kernel_rfl) (by kernel_rfl) (by kernel_rfl) (fun _ _ _ h => h) (.inl ⟨by rfl, ?_⟩) (by assumption) ?_
                  rotate_left
                  · intro w hSw; (try dsimp only at hSw); go_simp; try (with_reducible rfl)
                  try simp only [Act.put, List.setIfInBounds_toArray, List.set_cons_zero, List.set_cons_succ]
                  refine wpAnyH_take (i := 7) (oi := { dst := some 72, op := Op.move (Operand.tmp 9), type := 3, pos := "law.go:100", after := #[{ on := 5, ground := Ground.guard }], guard := some (5, false) }) (v := ?_) rfl (by kernel_rfl) (by kernel_rfl) (by kernel_rfl) (fun _ _ _ h => h) (.inl ⟨by rfl, ?_⟩) (by assumption) ?_
                  rotate_left
                  · intro w hSw; (try dsimp only at hSw); go_simp; try (with_reducible rfl)
                  try simp only [Act.put, List.setIfInBounds_toArray, List.set_cons_zero, List.set_cons_succ]
                  refine wpAnyH_take (i := 8) (oi := { dst := some 73, op := Op.indexAddr 33 (Operand.tmp 71) (Operand.tmp 72), type := 0, pos := "law.go:100", after := #[{ on := 6, ground := Ground.data }, { on := 7, ground := Ground.data }, { on := 5, ground := Ground.guard }], guard := some (5, false) }) (v := ?_) rfl (by kernel_rfl) (by kernel_rfl) (by kernel_rfl) (fun _ _ _ h => h) (.inl ⟨by rfl, ?_⟩) (by assumption) ?_
                  rotate_left
                  · intro w hSw; (try dsimp only at hSw); go_simp; try (with_reducible rfl)
                  try simp only [Act.put, List.setIfInBounds_toArray, List.set_cons_zero, List.set_cons_succ]
                  refine wpAnyH_take (i := 9) (oi := { dst := some 74, op := Op.load 3 (Operand.tmp 73), type := 3, pos := "law.go:100", after := #[{ on := 8, ground := Ground.data }, { on := 5, ground := Ground.guard }], guard := some (5, false) }) (v := ?_) rfl (by kernel_rfl) (by kernel_rfl) (by kernel_rfl) (fun _ _ _ h => h) (.inl ⟨by rfl, ?_⟩) (by assumption) ?_
                  rotate_left
                  · intro w hSw; (try dsimp only at hSw); go_simp; try (with_reducible rfl)
                  try simp only [Act.put, List.setIfInBounds_toArray, List.set_cons_zero, List.set_cons_succ]
                  refine wpAnyH_take (i := 10) (oi := { dst := some 75, op := Op.fieldAddr 30 (Operand.tmp 2) 1, type := 0, pos := "law.go:100", after := #[{ on := 5, ground := Ground.guard }], guard := some (5, false) }) (v := ?_) rfl (by kernel_rfl) (by kernel_rfl) (by kernel_rfl) (fun _ _ _ h => h) (.inl ⟨by rfl, ?_⟩) (by assumption) ?_
                  rotate_left
                  · intro w hSw; (try dsimp only at hSw); go_simp; try (with_reducible rfl)
                  try simp only [Act.put, List.setIfInBounds_toArray, List.set_cons_zero, List.set_cons_succ]
                  refine wpAnyH_take (i := 11) (oi := { dst := some 76, op := Op.load 26 (Operand.tmp 75), type := 26, pos := "law.go:100", after := #[{ on := 10, ground := Ground.data }, { on := 5, ground := Ground.guard }], guard := some (5, false) }) (v := ?_) rfl (by kernel_rfl) (by kernel_rfl) (by kernel_rfl) (fun _ _ _ h => h) (.inl ⟨by rfl, ?_⟩) (by assumption) ?_
                  rotate_left
                  · intro w hSw; (try dsimp only at hSw); go_simp; try (with_reducible rfl)
                  try simp only [Act.put, List.setIfInBounds_toArray, List.set_cons_zero, List.set_cons_succ]
                  refine wpAnyH_take (i := 12) (oi := { dst := some 77, op := Op.call { callee := Callee.builtin Builtin.len, args := #[Operand.tmp 76], argTypes := #[26] }, type := 3, pos := "law.go:100", after := #[{ on := 11, ground := Ground.data }, { on := 5, ground := Ground.guard }], guard := some (5, false) }) (v := ?_) rfl (by kernel_rfl) (by kernel_rfl) (by kernel_rfl) (fun _ _ _ h => h) (.inl ⟨by rfl, ?_⟩) (by assumption) ?_
                  rotate_left
                  · intro w hSw; (try dsimp only at hSw); go_simp; try (with_reducible rfl)
                  try simp only [Act.put, List.setIfInBounds_toArray, List.set_cons_zero, List.set_cons_succ]
                  refine wpAnyH_take (i := 13) (oi := { dst := some 78, op := Op.binOp BinOp.geq 3 (Operand.tmp 74) (Operand.tmp 77) 3, type := 4, pos := "law.go:100", after := #[{ on := 9, ground := Ground.data }, { on := 12, ground := Ground.data }, { on := 5, ground := Ground.guard }], guard := some (5, false) }) (v := ?_) rfl (by kernel_rfl) (by kernel_rfl) (by kernel_rfl) (fun _ _ _ h => h) (.inl ⟨by rfl, ?_⟩) (by assumption) ?_
                  rotate_left
                  · intro w hSw; (try dsimp only at hSw); go_simp; try (with_reducible rfl)
                  try simp only [Act.put, List.setIfInBounds_toArray, List.set_cons_zero, List.set_cons_succ]
                  refine wpAnyH_take (i := 14) (oi := { dst := some 79, op := Op.pick (Operand.tmp 70) (Operand.const (Value.bool true)) (Operand.tmp 78), type := 4, pos := "law.go:100", after := #[{ on := 5, ground := Ground.data }, { on := 13, ground := Ground.data }], guard := none }) (v := ?_) rfl (by kernel_rfl) (by kernel_rfl) (by kernel_rfl) (fun _ _ _ h => h) (.inl ⟨by rfl, ?_⟩) (by assumption) ?_
                  rotate_left
                  · intro w hSw; (try dsimp only at hSw); go_simp; try (with_reducible rfl)
                  try simp only [Act.put, List.setIfInBounds_toArray, List.set_cons_zero, List.set_cons_succ]
                  refine wpAnyH_take (i := 15) (oi := { dst := some 80, op := Op.move (Operand.tmp 79), type := 4, pos := "law.go:100", after := #[{ on := 14, ground := Ground.data }, { on := 5, ground := Ground.chain }], guard := none }) (v := ?_) rfl (by kernel_rfl) (by kernel_rfl) (by kernel_rfl) (fun _ _ _ h => h) (.inl ⟨by rfl, ?_⟩) (by assumption) ?_
                  rotate_left
                  · intro w hSw; (try dsimp only at hSw); go_simp; try (with_reducible rfl)
                  try simp only [Act.put, List.setIfInBounds_toArray, List.set_cons_zero, List.set_cons_succ]
                  refine wpAnyH_take (i := 16) (oi := { dst := some 81, op := Op.move (Operand.tmp 9), type := 3, pos := "law.go:100", after := #[{ on := 15, ground := Ground.guard }], guard := some (15, false) }) (v := ?_) rfl (by kernel_rfl) (by kernel_rfl) (by kernel_rfl) (fun _ _ _ h => h) (.inl ⟨by rfl, ?_⟩) (by assumption) ?_
                  rotate_left
                  · intro w hSw; (try dsimp only at hSw); go_simp; try (with_reducible rfl)
                  try simp only [Act.put, List.setIfInBounds_toArray, List.set_cons_zero, List.set_cons_succ]
                  refine wpAnyH_take (i := 17) (oi := { dst := some 82, op := Op.binOp BinOp.gtr 3 (Operand.tmp 81) (Operand.const (Value.int IntKind.i64 0)) 3, type := 4, pos := "law.go:100", after := #[{ on := 16, ground := Ground.data }, { on := 15, ground := Ground.guard }], guard := some (15, false) }) (v := ?_) rfl (by kernel_rfl) (by kernel_rfl) (by kernel_rfl) (fun _ _ _ h => h) (.inl ⟨by rfl, ?_⟩) (by assumption) ?_
                  rotate_left
                  · intro w hSw; (try dsimp only at hSw); go_simp; try (with_reducible rfl)
                  try simp only [Act.put, List.setIfInBounds_toArray, List.set_cons_zero, List.set_cons_succ]
                  refine wpAnyH_take (i := 18) (oi := { dst := some 83, op := Op.move (Operand.tmp 82), type := 4, pos := "law.go:100", after := #[{ on := 17, ground := Ground.data }, { on := 15, ground := Ground.chain }, { on := 15, ground := Ground.guard }], guard := some (15, false) }) (v := ?_) rfl (by kernel_rfl) (by kernel_rfl) (by kernel_rfl) (fun _ _ _ h => h) (.inl ⟨by rfl, ?_⟩) (by assumption) ?_
                  rotate_left
                  · intro w hSw; (try dsimp only at hSw); go_simp; try (with_reducible rfl)
                  try simp only [Act.put, List.setIfInBounds_toArray, List.set_cons_zero, List.set_cons_succ]
                  refine wpAnyH_take (i := 19) (oi := { dst := some 84, op := Op.move (Operand.tmp 7), type := 33, pos := "law.go:100", after := #[{ on := 18, ground := Ground.guard }], guard := some (18, true) }) (v := undef) rfl (by kernel_rfl) (by kernel_rfl) (by kernel_rfl) (fun _ _ _ h => h) (.inr ⟨by rfl, rfl⟩) (by assumption) ?_
                  try simp only [Act.put, List.setIfInBounds_toArray, List.set_cons_zero, List.set_cons_succ]
                  refine wpAnyH_take (i := 20) (oi := { dst := some 85, op := Op.move (Operand.tmp 9), type := 3, pos := "law.go:100", after := #[{ on := 18, ground := Ground.guard }], guard := some (18, true) }) (v := undef) rfl (by kernel_rfl) (by kernel_rfl) (by kernel_rfl) (fun _ _ _ h => h) (.inr ⟨by rfl, rfl⟩) (by assumption) ?_
                  try simp only [Act.put, List.setIfInBounds_toArray, List.set_cons_zero, List.set_cons_succ]
                  refine wpAnyH_take (i := 21) (oi := { dst := some 86, op := Op.binOp BinOp.sub 3 (Operand.tmp 85) (Operand.const (Value.int IntKind.i64 1)) 3, type := 3, pos := "law.go:100", after := #[{ on := 20, ground := Ground.data }, { on := 18, ground := Ground.guard }], guard := some (18, true) }) (v := undef) rfl (by kernel_rfl) (by kernel_rfl) (by kernel_rfl) (fun _ _ _ h => h) (.inr ⟨by rfl, rfl⟩) (by assumption) ?_
                  try simp only [Act.put, List.setIfInBounds_toArray, List.set_cons_zero, List.set_cons_succ]
                  refine wpAnyH_take (i := 22) (oi := { dst := some 87, op := Op.indexAddr 33 (Operand.tmp 84) (Operand.tmp 86), type := 0, pos := "law.go:100", after := #[{ on := 19, ground := Ground.data }, { on := 21, ground := Ground.data }, { on := 18, ground := Ground.guard }], guard := some (18, true) }) (v := undef) rfl (by kernel_rfl) (by kernel_rfl) (by kernel_rfl) (fun _ _ _ h => h) (.inr ⟨by rfl, rfl⟩) (by assumption) ?_
                  try simp only [Act.put, List.setIfInBounds_toArray, List.set_cons_zero, List.set_cons_succ]
                  refine wpAnyH_take (i := 23) (oi := { dst := some 88, op := Op.load 3 (Operand.tmp 87), type := 3, pos := "law.go:100", after := #[{ on := 22, ground := Ground.data }, { on := 18, ground := Ground.guard }], guard := some (18, true) }) (v := undef) rfl (by kernel_rfl) (by kernel_rfl) (by kernel_rfl) (fun _ _ _ h => h) (.inr ⟨by rfl, rfl⟩) (by assumption) ?_
                  try simp only [Act.put, List.setIfInBounds_toArray, List.set_cons_zero, List.set_cons_succ]
                  refine wpAnyH_take (i := 24) (oi := { dst := some 89, op := Op.move (Operand.tmp 7), type := 33, pos := "law.go:100", after := #[{ on := 18, ground := Ground.guard }], guard := some (18, true) }) (v := undef) rfl (by kernel_rfl) (by kernel_rfl) (by kernel_rfl) (fun _ _ _ h => h) (.inr ⟨by rfl, rfl⟩) (by assumption) ?_
                  try simp only [Act.put, List.setIfInBounds_toArray, List.set_cons_zero, List.set_cons_succ]
                  refine wpAnyH_take (i := 25) (oi := { dst := some 90, op := Op.move (Operand.tmp 9), type := 3, pos := "law.go:100", after := #[{ on := 18, ground := Ground.guard }], guard := some (18, true) }) (v := undef) rfl (by kernel_rfl) (by kernel_rfl) (by kernel_rfl) (fun _ _ _ h => h) (.inr ⟨by rfl, rfl⟩) (by assumption) ?_
                  try simp only [Act.put, List.setIfInBounds_toArray, List.set_cons_zero, List.set_cons_succ]
                  refine wpAnyH_take (i := 26) (oi := { dst := some 91, op := Op.indexAddr 33 (Operand.tmp 89) (Operand.tmp 90), type := 0, pos := "law.go:100", after := #[{ on := 24, ground := Ground.data }, { on := 25, ground := Ground.data }, { on := 18, ground := Ground.guard }], guard := some (18, true) }) (v := undef) rfl (by kernel_rfl) (by kernel_rfl) (by kernel_rfl) (fun _ _ _ h => h) (.inr ⟨by rfl, rfl⟩) (by assumption) ?_
                  try simp only [Act.put, List.setIfInBounds_toArray, List.set_cons_zero, List.set_cons_succ]
                  refine wpAnyH_take (i := 27) (oi := { dst := some 92, op := Op.load 3 (Operand.tmp 91), type := 3, pos := "law.go:100", after := #[{ on := 26, ground := Ground.data }, { on := 18, ground := Ground.guard }], guard := some (18, true) }) (v := undef) rfl (by kernel_rfl) (by kernel_rfl) (by kernel_rfl) (fun _ _ _ h => h) (.inr ⟨by rfl, rfl⟩) (by assumption) ?_
                  try simp only [Act.put, List.setIfInBounds_toArray, List.set_cons_zero, List.set_cons_succ]
                  refine wpAnyH_take (i := 28) (oi := { dst := some 93, op := Op.binOp BinOp.geq 3 (Operand.tmp 88) (Operand.tmp 92) 3, type := 4, pos := "law.go:100", after := #[{ on := 23, ground := Ground.data }, { on := 27, ground := Ground.data }, { on := 18, ground := Ground.guard }], guard := some (18, true) }) (v := undef) rfl (by kernel_rfl) (by kernel_rfl) (by kernel_rfl) (fun _ _ _ h => h) (.inr ⟨by rfl, rfl⟩) (by assumption) ?_
                  try simp only [Act.put, List.setIfInBounds_toArray, List.set_cons_zero, List.set_cons_succ]
                  refine wpAnyH_take (i := 29) (oi := { dst := some 94, op := Op.pick (Operand.tmp 83) (Operand.tmp 93) (Operand.const (Value.bool false)), type := 4, pos := "law.go:100", after := #[{ on := 18, ground := Ground.data }, { on := 28, ground := Ground.data }, { on := 15, ground := Ground.guard }], guard := some (15, false) }) (v := ?_) rfl (by kernel_rfl) (by kernel_rfl) (by kernel_rfl) (fun _ _ _ h => h) (.inl ⟨by rfl, ?_⟩) (by assumption) ?_
                  rotate_left
                  · intro w hSw; (try dsimp only at hSw); go_simp; try (with_reducible rfl)
                  try simp only [Act.put, List.setIfInBounds_toArray, List.set_cons_zero, List.set_cons_succ]
                  refine wpAnyH_take (i := 30) (oi := { dst := some 95, op := Op.pick (Operand.tmp 80) (Operand.const (Value.bool true)) (Operand.tmp 94), type := 4, pos := "law.go:100", after := #[{ on := 15, ground := Ground.data }, { on := 29, ground := Ground.data }], guard := none }) (v := ?_) rfl (by kernel_rfl) (by kernel_rfl) (by kernel_rfl) (fun _ _ _ h => h) (.inl ⟨by rfl, ?_⟩) (by assumption) ?_
                  rotate_left
                  · intro w hSw; (try dsimp only at hSw); go_simp; try (with_reducible rfl)
                  try simp only [Act.put, List.setIfInBounds_toArray, List.set_cons_zero, List.set_cons_succ]
                  refine wpAnyH_done (by kernel_rfl) ?_ _
                  refine NoPanic.normal ?_
                  go_wp2_with fail
                  go_roundw
                  case rel => exact ⟨j + 1, by omega, by go_num, hbW.drew⟩
                  case measure => simp [intOf]; omega
                · obtain ⟨jm, hjm⟩ : ∃ jm, jm = j - 1 := ⟨_, rfl⟩
                  have hjml : jm < c.length := by omega
                  obtain ⟨kb2, ko2, ek, -, hcm⟩ := hkr.rows.int (i := jm) (by rw [natInts_length]; exact hjml)
                  cases ek
                  rw [natInts_get hjml] at hcm
                  have hlt : c[jm] < c[j] := by subst hjm; exact clash_get (n := 0) HCP.out hjc (by omega)
                  generalize c[j] = cj at *
                  generalize c[jm] = cm at *
                  have hd1 : decide ((cj : Int) < 0) = false := by simp
                  have hd2 : decide ((t.wishes.length : Int) ≤ (cj : Int)) = false := by simp; omega
                  have hd3 : decide (t.wishes.length ≤ cj) = false := by simp; omega
                  have hd4 : decide ((0 : Int) < (j : Int)) = true := by simp; omega
                  have hd5 : decide ((cj : Int) ≤ (cm : Int)) = false := by simp; omega
                  have hd6 : decide (cj ≤ cm) = false := by simp; omega
                  have hd7 : decide (0 < j) = true := by simp; omega
                  have hjm2 : (jm : Int) < (c.length : Int) := by omega
                  have hw1 : IntKind.i64.wrap ((j : Int) - 1) = (jm : Int) := by rw [IntWalk.i64_in _ (by omega)]; omega
                  clear hjm hlt
                  go_wp2_with fail
                  refine wp_region_noPanic ?_
                  refine wp_region_held_drew (S := (fun w' => Below wr.heap.size wr w' ∧ (∀ b o, b < wr.heap.size → w'.cell? ⟨b, o, none⟩ = wr.cell? ⟨b, o, none⟩))) (by kernel_rfl) ?_ (fun hHeld => ?_)
                  · exact held_drew _
                  refine wpAnyH_take (i := 0) (oi := { dst := some 65, op := Op.move (Operand.tmp 7), type := 33, pos := "law.go:100", after := #[], guard := none }) (v := ?_) rfl (by kernel_rfl) (by kernel_rfl) (by kernel_rfl) (fun _ _ _ h => h) (.inl ⟨by rfl, ?_⟩) (by assumption) ?_
                  rotate_left
                  · intro w hSw; (try dsimp only at hSw); go_simp; try (with_reducible rfl)
                  try simp only [Act.put, List.setIfInBounds_toArray, List.set_cons_zero, List.set_cons_succ]
                  refine wpAnyH_take (i := 1) (oi := { dst := some 66, op := Op.move (Operand.tmp 9), type := 3, pos := "law.go:100", after := #[], guard := none }) (v := ?_) rfl (by kernel_rfl) (by kernel_rfl) (by kernel_rfl) (fun _ _ _ h => h) (.inl ⟨by rfl, ?_⟩) (by assumption) ?_
                  rotate_left
                  · intro w hSw; (try dsimp only at hSw); go_simp; try (with_reducible rfl)
                  try simp only [Act.put, List.setIfInBounds_toArray, List.set_cons_zero, List.set_cons_succ]
                  refine wpAnyH_take (i := 2) (oi := { dst := some 67, op := Op.indexAddr 33 (Operand.tmp 65) (Operand.tmp 66), type := 0, pos := "law.go:100", after := #[{ on := 0, ground := Ground.data }, { on := 1, ground := Ground.data }], guard := none }) (v := ?_) rfl (by kernel_rfl) (by kernel_rfl) (by kernel_rfl) (fun _ _ _ h => h) (.inl ⟨by rfl, ?_⟩) (by assumption) ?_
                  rotate_left
                  · intro w hSw; (try dsimp only at hSw); go_simp; try (with_reducible rfl)
                  try simp only [Act.put, List.setIfInBounds_toArray, List.set_cons_zero, List.set_cons_succ]
                  refine wpAnyH_take (i := 3) (oi := { dst := some 68, op := Op.load 3 (Operand.tmp 67), type := 3, pos := "law.go:100", after := #[{ on := 2, ground := Ground.data }], guard := none }) (v := ?_) rfl (by kernel_rfl) (by kernel_rfl) (by kernel_rfl) (fun _ _ _ h => h) (.inl ⟨by rfl, ?_⟩) (by assumption) ?_
                  rotate_left
                  · intro w hSw; (try dsimp only at hSw); go_simp; try (with_reducible rfl)
                  try simp only [Act.put, List.setIfInBounds_toArray, List.set_cons_zero, List.set_cons_succ]
                  refine wpAnyH_take (i := 4) (oi := { dst := some 69, op := Op.binOp BinOp.lss 3 (Operand.tmp 68) (Operand.const (Value.int IntKind.i64 0)) 3, type := 4, pos := "law.go:100", after := #[{ on := 3, ground := Ground.data }], guard := none }) (v := ?_) rfl (by kernel_rfl) (by kernel_rfl) (by kernel_rfl) (fun _ _ _ h => h) (.inl ⟨by rfl, ?_⟩) (by assumption) ?_
                  rotate_left
                  · intro w hSw; (try dsimp only at hSw); go_simp; try (with_reducible rfl)
                  try simp only [Act.put, List.setIfInBounds_toArray, List.set_cons_zero, List.set_cons_succ]
                  refine wpAnyH_take (i := 5) (oi := { dst := some 70, op := Op.move (Operand.tmp 69), type := 4, pos := "law.go:100", after := #[{ on := 4, ground := Ground.data }], guard := none }) (v := ?_) rfl (by kernel_rfl) (by kernel_rfl) (by kernel_rfl) (fun _ _ _ h => h) (.inl ⟨by rfl, ?_⟩) (by assumption) ?_
                  rotate_left
                  · intro w hSw; (try dsimp only at hSw); go_simp; try (with_reducible rfl)
                  try simp only [Act.put, List.setIfInBounds_toArray, List.set_cons_zero, List.set_cons_succ]
                  refine wpAnyH_take (i := 6) (oi := { dst := some 71, op := Op.move (Operand.tmp 7), type := 33, pos := "law.go:100", after := #[{ on := 5, ground := Ground.guard }], guard := some (5, false) }) (v := ?_) rfl (by kernel_rfl) (by kernel_rfl) (by kernel_rfl) (fun _ _ _ h => h) (.inl ⟨by rfl, ?_⟩) (by assumption) ?_
                  rotate_left
                  · intro w hSw; (try dsimp only at hSw); go_simp; try (with_reducible rfl)
                  try simp only [Act.put, List.setIfInBounds_toArray, List.set_cons_zero, List.set_cons_succ]
                  refine wpAnyH_take (i := 7) (oi := { dst := some 72, op := Op.move (Operand.tmp 9), type := 3, pos := "law.go:100", after := #[{ on := 5, ground := Ground.guard }], guard := some (5, false) }) (v := ?_) rfl (by kernel_rfl) (by kernel_rfl) (by kernel_rfl) (fun _ _ _ h => h) (.inl ⟨by rfl, ?_⟩) (by assumption) ?_
                  rotate_left
                  · intro w hSw; (try dsimp only at hSw); go_simp; try (with_reducible rfl)
                  try simp only [Act.put, List.setIfInBounds_toArray, List.set_cons_zero, List.set_cons_succ]
                  refine wpAnyH_take (i := 8) (oi := { dst := some 73, op := Op.indexAddr 33 (Operand.tmp 71) (Operand.tmp 72), type := 0, pos := "law.go:100", after := #[{ on := 6, ground := Ground.data }, { on := 7, ground := Ground.data }, { on := 5, ground := Ground.guard }], guard := some (5, false) }) (v := ?_) rfl (by kernel_rfl) (by kernel_rfl) (by kernel_rfl) (fun _ _ _ h => h) (.inl ⟨by rfl, ?_⟩) (by assumption) ?_
                  rotate_left
                  · intro w hSw; (try dsimp only at hSw); go_simp; try (with_reducible rfl)
                  try simp only [Act.put, List.setIfInBounds_toArray, List.set_cons_zero, List.set_cons_succ]
                  refine wpAnyH_take (i := 9) (oi := { dst := some 74, op := Op.load 3 (Operand.tmp 73), type := 3, pos := "law.go:100", after := #[{ on := 8, ground := Ground.data }, { on := 5, ground := Ground.guard }], guard := some (5, false) }) (v := ?_) rfl (by kernel_rfl) (by kernel_rfl) (by kernel_rfl) (fun _ _ _ h => h) (.inl ⟨by rfl, ?_⟩) (by assumption) ?_
                  rotate_left
                  · intro w hSw; (try dsimp only at hSw); go_simp; try (with_reducible rfl)
                  try simp only [Act.put, List.setIfInBounds_toArray, List.set_cons_zero, List.set_cons_succ]
                  refine wpAnyH_take (i := 10) (oi := { dst := some 75, op := Op.fieldAddr 30 (Operand.tmp 2) 1, type := 0, pos := "law.go:100", after := #[{ on := 5, ground := Ground.guard }], guard := some (5, false) }) (v := ?_) rfl (by kernel_rfl) (by kernel_rfl) (by kernel_rfl) (fun _ _ _ h => h) (.inl ⟨by rfl, ?_⟩) (by assumption) ?_
                  rotate_left
                  · intro w hSw; (try dsimp only at hSw); go_simp; try (with_reducible rfl)
                  try simp only [Act.put, List.setIfInBounds_toArray, List.set_cons_zero, List.set_cons_succ]
                  refine wpAnyH_take (i := 11) (oi := { dst := some 76, op := Op.load 26 (Operand.tmp 75), type := 26, pos := "law.go:100", after := #[{ on := 10, ground := Ground.data }, { on := 5, ground := Ground.guard }], guard := some (5, false) }) (v := ?_) rfl (by kernel_rfl) (by kernel_rfl) (by kernel_rfl) (fun _ _ _ h => h) (.inl ⟨by rfl, ?_⟩) (by assumption) ?_
                  rotate_left
                  · intro w hSw; (try dsimp only at hSw); go_simp; try (with_reducible rfl)
                  try simp only [Act.put, List.setIfInBounds_toArray, List.set_cons_zero, List.set_cons_succ]
                  refine wpAnyH_take (i := 12) (oi := { dst := some 77, op := Op.call { callee := Callee.builtin Builtin.len, args := #[Operand.tmp 76], argTypes := #[26] }, type := 3, pos := "law.go:100", after := #[{ on := 11, ground := Ground.data }, { on := 5, ground := Ground.guard }], guard := some (5, false) }) (v := ?_) rfl (by kernel_rfl) (by kernel_rfl) (by kernel_rfl) (fun _ _ _ h => h) (.inl ⟨by rfl, ?_⟩) (by assumption) ?_
                  rotate_left
                  · intro w hSw; (try dsimp only at hSw); go_simp; try (with_reducible rfl)
                  try simp only [Act.put, List.setIfInBounds_toArray, List.set_cons_zero, List.set_cons_succ]
                  refine wpAnyH_take (i := 13) (oi := { dst := some 78, op := Op.binOp BinOp.geq 3 (Operand.tmp 74) (Operand.tmp 77) 3, type := 4, pos := "law.go:100", after := #[{ on := 9, ground := Ground.data }, { on := 12, ground := Ground.data }, { on := 5, ground := Ground.guard }], guard := some (5, false) }) (v := ?_) rfl (by kernel_rfl) (by kernel_rfl) (by kernel_rfl) (fun _ _ _ h => h) (.inl ⟨by rfl, ?_⟩) (by assumption) ?_
                  rotate_left
                  · intro w hSw; (try dsimp only at hSw); go_simp; try (with_reducible rfl)
                  try simp only [Act.put, List.setIfInBounds_toArray, List.set_cons_zero, List.set_cons_succ]
                  refine wpAnyH_take (i := 14) (oi := { dst := some 79, op := Op.pick (Operand.tmp 70) (Operand.const (Value.bool true)) (Operand.tmp 78), type := 4, pos := "law.go:100", after := #[{ on := 5, ground := Ground.data }, { on := 13, ground := Ground.data }], guard := none }) (v := ?_) rfl (by kernel_rfl) (by kernel_rfl) (by kernel_rfl) (fun _ _ _ h => h) (.inl ⟨by rfl, ?_⟩) (by assumption) ?_
                  rotate_left
                  · intro w hSw; (try dsimp only at hSw); go_simp; try (with_reducible rfl)
                  try simp only [Act.put, List.setIfInBounds_toArray, List.set_cons_zero, List.set_cons_succ]
                  refine wpAnyH_take (i := 15) (oi := { dst := some 80, op := Op.move (Operand.tmp 79), type := 4, pos := "law.go:100", after := #[{ on := 14, ground := Ground.data }, { on := 5, ground := Ground.chain }], guard := none }) (v := ?_) rfl (by kernel_rfl) (by kernel_rfl) (by kernel_rfl) (fun _ _ _ h => h) (.inl ⟨by rfl, ?_⟩) (by assumption) ?_
                  rotate_left
                  · intro w hSw; (try dsimp only at hSw); go_simp; try (with_reducible rfl)
                  try simp only [Act.put, List.setIfInBounds_toArray, List.set_cons_zero, List.set_cons_succ]
                  refine wpAnyH_take (i := 16) (oi := { dst := some 81, op := Op.move (Operand.tmp 9), type := 3, pos := "law.go:100", after := #[{ on := 15, ground := Ground.guard }], guard := some (15, false) }) (v := ?_) rfl (by kernel_rfl) (by kernel_rfl) (by kernel_rfl) (fun _ _ _ h => h) (.inl ⟨by rfl, ?_⟩) (by assumption) ?_
                  rotate_left
                  · intro w hSw; (try dsimp only at hSw); go_simp; try (with_reducible rfl)
                  try simp only [Act.put, List.setIfInBounds_toArray, List.set_cons_zero, List.set_cons_succ]
                  refine wpAnyH_take (i := 17) (oi := { dst := some 82, op := Op.binOp BinOp.gtr 3 (Operand.tmp 81) (Operand.const (Value.int IntKind.i64 0)) 3, type := 4, pos := "law.go:100", after := #[{ on := 16, ground := Ground.data }, { on := 15, ground := Ground.guard }], guard := some (15, false) }) (v := ?_) rfl (by kernel_rfl) (by kernel_rfl) (by kernel_rfl) (fun _ _ _ h => h) (.inl ⟨by rfl, ?_⟩) (by assumption) ?_
                  rotate_left
                  · intro w hSw; (try dsimp only at hSw); go_simp; try (with_reducible rfl)
                  try simp only [Act.put, List.setIfInBounds_toArray, List.set_cons_zero, List.set_cons_succ]
                  refine wpAnyH_take (i := 18) (oi := { dst := some 83, op := Op.move (Operand.tmp 82), type := 4, pos := "law.go:100", after := #[{ on := 17, ground := Ground.data }, { on := 15, ground := Ground.chain }, { on := 15, ground := Ground.guard }], guard := some (15, false) }) (v := ?_) rfl (by kernel_rfl) (by kernel_rfl) (by kernel_rfl) (fun _ _ _ h => h) (.inl ⟨by rfl, ?_⟩) (by assumption) ?_
                  rotate_left
                  · intro w hSw; (try dsimp only at hSw); go_simp; try (with_reducible rfl)
                  try simp only [Act.put, List.setIfInBounds_toArray, List.set_cons_zero, List.set_cons_succ]
                  refine wpAnyH_take (i := 19) (oi := { dst := some 84, op := Op.move (Operand.tmp 7), type := 33, pos := "law.go:100", after := #[{ on := 18, ground := Ground.guard }], guard := some (18, true) }) (v := ?_) rfl (by kernel_rfl) (by kernel_rfl) (by kernel_rfl) (fun _ _ _ h => h) (.inl ⟨by rfl, ?_⟩) (by assumption) ?_
                  rotate_left
                  · intro w hSw; (try dsimp only at hSw); go_simp; try (with_reducible rfl)
                  try simp only [Act.put, List.setIfInBounds_toArray, List.set_cons_zero, List.set_cons_succ]
                  refine wpAnyH_take (i := 20) (oi := { dst := some 85, op := Op.move (Operand.tmp 9), type := 3, pos := "law.go:100", after := #[{ on := 18, ground := Ground.guard }], guard := some (18, true) }) (v := ?_) rfl (by kernel_rfl) (by kernel_rfl) (by kernel_rfl) (fun _ _ _ h => h) (.inl ⟨by rfl, ?_⟩) (by assumption) ?_
                  rotate_left
                  · intro w hSw; (try dsimp only at hSw); go_simp; try (with_reducible rfl)
                  try simp only [Act.put, List.setIfInBounds_toArray, List.set_cons_zero, List.set_cons_succ]
                  refine wpAnyH_take (i := 21) (oi := { dst := some 86, op := Op.binOp BinOp.sub 3 (Operand.tmp 85) (Operand.const (Value.int IntKind.i64 1)) 3, type := 3, pos := "law.go:100", after := #[{ on := 20, ground := Ground.data }, { on := 18, ground := Ground.guard }], guard := some (18, true) }) (v := ?_) rfl (by kernel_rfl) (by kernel_rfl) (by kernel_rfl) (fun _ _ _ h => h) (.inl ⟨by rfl, ?_⟩) (by assumption) ?_
                  rotate_left
                  · intro w hSw; (try dsimp only at hSw); go_simp; try (with_reducible rfl)
                  try simp only [Act.put, List.setIfInBounds_toArray, List.set_cons_zero, List.set_cons_succ]
                  refine wpAnyH_take (i := 22) (oi := { dst := some 87, op := Op.indexAddr 33 (Operand.tmp 84) (Operand.tmp 86), type := 0, pos := "law.go:100", after := #[{ on := 19, ground := Ground.data }, { on := 21, ground := Ground.data }, { on := 18, ground := Ground.guard }], guard := some (18, true) }) (v := ?_) rfl (by kernel_rfl) (by kernel_rfl) (by kernel_rfl) (fun _ _ _ h => h) (.inl ⟨by rfl, ?_⟩) (by assumption) ?_
                  rotate_left
                  · intro w hSw; (try dsimp only at hSw); go_simp; try (with_reducible rfl)
                  try simp only [Act.put, List.setIfInBounds_toArray, List.set_cons_zero, List.set_cons_succ]
                  refine wpAnyH_take (i := 23) (oi := { dst := some 88, op := Op.load 3 (Operand.tmp 87), type := 3, pos := "law.go:100", after := #[{ on := 22, ground := Ground.data }, { on := 18, ground := Ground.guard }], guard := some (18, true) }) (v := ?_) rfl (by kernel_rfl) (by kernel_rfl) (by kernel_rfl) (fun _ _ _ h => h) (.inl ⟨by rfl, ?_⟩) (by assumption) ?_
                  rotate_left
                  · intro w hSw; (try dsimp only at hSw); go_simp; try (with_reducible rfl)
                  try simp only [Act.put, List.setIfInBounds_toArray, List.set_cons_zero, List.set_cons_succ]
                  refine wpAnyH_take (i := 24) (oi := { dst := some 89, op := Op.move (Operand.tmp 7), type := 33, pos := "law.go:100", after := #[{ on := 18, ground := Ground.guard }], guard := some (18, true) }) (v := ?_) rfl (by kernel_rfl) (by kernel_rfl) (by kernel_rfl) (fun _ _ _ h => h) (.inl ⟨by rfl, ?_⟩) (by assumption) ?_
                  rotate_left
                  · intro w hSw; (try dsimp only at hSw); go_simp; try (with_reducible rfl)
                  try simp only [Act.put, List.setIfInBounds_toArray, List.set_cons_zero, List.set_cons_succ]
                  refine wpAnyH_take (i := 25) (oi := { dst := some 90, op := Op.move (Operand.tmp 9), type := 3, pos := "law.go:100", after := #[{ on := 18, ground := Ground.guard }], guard := some (18, true) }) (v := ?_) rfl (by kernel_rfl) (by kernel_rfl) (by kernel_rfl) (fun _ _ _ h => h) (.inl ⟨by rfl, ?_⟩) (by assumption) ?_
                  rotate_left
                  · intro w hSw; (try dsimp only at hSw); go_simp; try (with_reducible rfl)
                  try simp only [Act.put, List.setIfInBounds_toArray, List.set_cons_zero, List.set_cons_succ]
                  refine wpAnyH_take (i := 26) (oi := { dst := some 91, op := Op.indexAddr 33 (Operand.tmp 89) (Operand.tmp 90), type := 0, pos := "law.go:100", after := #[{ on := 24, ground := Ground.data }, { on := 25, ground := Ground.data }, { on := 18, ground := Ground.guard }], guard := some (18, true) }) (v := ?_) rfl (by kernel_rfl) (by kernel_rfl) (by kernel_rfl) (fun _ _ _ h => h) (.inl ⟨by rfl, ?_⟩) (by assumption) ?_
                  rotate_left
                  · intro w hSw; (try dsimp only at hSw); go_simp; try (with_reducible rfl)
                  try simp only [Act.put, List.setIfInBounds_toArray, List.set_cons_zero, List.set_cons_succ]
                  refine wpAnyH_take (i := 27) (oi := { dst := some 92, op := Op.load 3 (Operand.tmp 91), type := 3, pos := "law.go:100", after := #[{ on := 26, ground := Ground.data }, { on := 18, ground := Ground.guard }], guard := some (18, true) }) (v := ?_) rfl (by kernel_rfl) (by kernel_rfl) (by kernel_rfl) (fun _ _ _ h => h) (.inl ⟨by rfl, ?_⟩) (by assumption) ?_
                  rotate_left
                  · intro w hSw; (try dsimp only at hSw); go_simp; try (with_reducible rfl)
                  try simp only [Act.put, List.setIfInBounds_toArray, List.set_cons_zero, List.set_cons_succ]
                  refine wpAnyH_take (i := 28) (oi := { dst := some 93, op := Op.binOp BinOp.geq 3 (Operand.tmp 88) (Operand.tmp 92) 3, type := 4, pos := "law.go:100", after := #[{ on := 23, ground := Ground.data }, { on := 27, ground := Ground.data }, { on := 18, ground := Ground.guard }], guard := some (18, true) }) (v := ?_) rfl (by kernel_rfl) (by kernel_rfl) (by kernel_rfl) (fun _ _ _ h => h) (.inl ⟨by rfl, ?_⟩) (by assumption) ?_
                  rotate_left
                  · intro w hSw; (try dsimp only at hSw); go_simp; try (with_reducible rfl)
                  try simp only [Act.put, List.setIfInBounds_toArray, List.set_cons_zero, List.set_cons_succ]
                  refine wpAnyH_take (i := 29) (oi := { dst := some 94, op := Op.pick (Operand.tmp 83) (Operand.tmp 93) (Operand.const (Value.bool false)), type := 4, pos := "law.go:100", after := #[{ on := 18, ground := Ground.data }, { on := 28, ground := Ground.data }, { on := 15, ground := Ground.guard }], guard := some (15, false) }) (v := ?_) rfl (by kernel_rfl) (by kernel_rfl) (by kernel_rfl) (fun _ _ _ h => h) (.inl ⟨by rfl, ?_⟩) (by assumption) ?_
                  rotate_left
                  · intro w hSw; (try dsimp only at hSw); go_simp; try (with_reducible rfl)
                  try simp only [Act.put, List.setIfInBounds_toArray, List.set_cons_zero, List.set_cons_succ]
                  refine wpAnyH_take (i := 30) (oi := { dst := some 95, op := Op.pick (Operand.tmp 80) (Operand.const (Value.bool true)) (Operand.tmp 94), type := 4, pos := "law.go:100", after := #[{ on := 15, ground := Ground.data }, { on := 29, ground := Ground.data }], guard := none }) (v := ?_) rfl (by kernel_rfl) (by kernel_rfl) (by kernel_rfl) (fun _ _ _ h => h) (.inl ⟨by rfl, ?_⟩) (by assumption) ?_
                  rotate_left
                  · intro w hSw; (try dsimp only at hSw); go_simp; try (with_reducible rfl)
                  try simp only [Act.put, List.setIfInBounds_toArray, List.set_cons_zero, List.set_cons_succ]
                  refine wpAnyH_done (by kernel_rfl) ?_ _
                  refine NoPanic.normal ?_
                  go_wp2_with fail
                  go_roundw
                  case rel => exact ⟨j + 1, by omega, by go_num, hbW.drew⟩
                  case measure => simp [intOf]; omega
              · obtain rfl : j = c.length := by omega
                have hki : ¬ ((c.length : Int) < (c.length : Int)) := by omega
                obtain ⟨hBlt, z0, z1, z2, z3, z4, z5, z6, z7, z8, z9, z10⟩ := id hBr
                go_wp2_with fail
                refine (with_any hTr hkr HCL.out (by omega)).mono ?_
                rintro e w5 ⟨A5, c5, rfl, hT5, hb5⟩
                go_wp2_with fail
                refine (dysolve_any hT5).mono ?_
                rintro e w6 ⟨v6, rfl, -, hb6⟩
                simp only [HC4.out]
                have hb6 := hb5.trans (hb6.mono hb5.size)
                have hBo := hBr.below hb6
                have h := hTr.below hb6
                have hT := hTb.below hb6
                have hB := hBB.trans (hb6.mono hBB.size)
                have hkI := hkr.below hb6
                clear hBr hTr hTb hBB hkr hb6 hb5 hT5 hbW z0 z1 z2 z3 z4 z5 z6 z7 z8 z9 z10 hBlt
                obtain ⟨i0, hi0, hz0, hz1, hz2⟩ := info_parts info3
                go_wp2_with fail
                obtain ⟨W2, hW⟩ : ∃ W2 : World, W2 = w6 := ⟨_, rfl⟩
                have hBo : TaskBox W2 w.heap.size cA cc pA pc wA wc uA uc t := by rw [hW]; exact hBo
                have h : TaskRd W2 cA cc pA pc wA wc uA uc t := by rw [hW]; exact h
                have hT : TabW W2 := by rw [hW]; exact hT
                have hB : Below w.heap.size w W2 := by rw [hW]; exact hB
                have hkI : IntsRd W2 kA kc (natInts c) := by rw [hW]; exact hkI
                go_loopw [12] (fun i wr => ∃ j : Nat, j ≤ c.length ∧ i = .int .i64 j ∧ Below W2.heap.size W2 wr) (fun i _ => c.length - (intOf i).toNat)
                case atStart => exact ⟨0, Nat.zero_le _, rfl, by rw [hW]; exact Below.refl _ _⟩
                case round =>
                  clear hW
                  obtain ⟨j, hj, rfl, hbW⟩ := hrel
                  have hBr := hBo.below hbW
                  have hTr := h.below hbW
                  have hTb := hT.below hbW
                  have hBB := hB.trans (hbW.mono hB.size)
                  have hkr := hkI.below hbW
                  clear hBo h hT hB hkI
                  by_cases hjc : j < c.length
                  · obtain ⟨hBlt, z0, z1, z2, z3, z4, z5, z6, z7, z8, z9, z10⟩ := id hBr
                    obtain ⟨kb, ko, rfl, hkb, -⟩ := hkr.rows.int (i := j) (by rw [natInts_length]; exact hjc)
                    have HCEJ := Lib.hid (HCE.out j hjc)
                    have HER := Lib.hid (fun i (hi : i ∈ c.eraseIdx j) => HCL.out i ((List.eraseIdx_sublist c j).subset hi))
                    have hjc2 : (j : Int) < (c.length : Int) := by omega
                    have hjk : j ≤ kc := by omega
                    have hjk2 : j + 1 ≤ kc := by omega
                    have hjk3 : j + 1 ≤ c.length := by omega
                    have hw1 : IntKind.i64.wrap ((j : Int) + 1) = (j : Int) + 1 := IntWalk.i64_in _ (by omega)
                    have hw2 : 0 ≤ (j : Int) + 1 := by omega
                    have hw3 : ((j : Int) + 1).toNat = j + 1 := by omega
                    have hI0 : (j : Int) ≤ (kc : Int) := by omega
                    have hI1 : (j : Int) + 1 ≤ (c.length : Int) := by omega
                    have hI2 : (j : Int) + 1 ≤ (kc : Int) := by omega
                    have hI3 : (c.length : Int) ≤ (kc : Int) := by omega
                    by_cases hcap : kc = j + 1
                    · subst hcap
                      have hI4 : (j : Int) ≤ (j : Int) + 1 := by omega
                      have hI5 : (c.length : Int) ≤ (j : Int) + 1 := by omega
                      have HJL := Lib.hid (show c.length = j + 1 by omega)
                      go_wp2_with fail
                      go_region_held3 (fun w' => Below wr.heap.size wr w' ∧ (∀ b o, b < wr.heap.size → w'.cell? ⟨b, o, none⟩ = wr.cell? ⟨b, o, none⟩)) (first | exact held_drew _ | assumption | exact held_alloc (by assumption) _)
                        (first
                          | (refine step_append_ints2 rfl (.tmp 115) (.tmp 118) 33 3 i0 rfl Tryd.underlying33 hi0 hz0 hz1 hz2 wr.heap.size (.slice (some ⟨_, 0, none⟩) 0 0) [] rfl ?ho (some ⟨kb, ko, none⟩) (j + 1) j ((natInts c).take j) rfl ?hn ((hkr.below ?hb).take j) (by simp) ?hl ?hs ?_
                             case hb => exact And.left (by assumption)
                             case hs => exact Below.size (And.left (by assumption))
                             case hn => simp [natInts_length]; omega
                             case hl => simp [natInts_length]; omega
                             case ho => (first | exact own_lit0 _ (by simp) (by simp) | exact (own_lit0 _ (by simp) (by simp)).alloc _)
                             intro L1 A1 c1 w1 hL1 hown hgrow hge hI1
                             have HL1 := Lib.hid hL1
                             clear hL1
                             have hq := held_grown (wr := wr) (by assumption) hgrow hge)
                          | (refine step_append_ints2 rfl (.tmp 119) (.tmp 123) 33 3 i0 rfl Tryd.underlying33 hi0 hz0 hz1 hz2 wr.heap.size (.slice A1 L1.length c1) L1 rfl ?ho2 (some ⟨kb, ko, none⟩) 0 0 ((natInts c).drop (j + 1)) rfl ?hn2 ?hI2 hI1.wf ?hl2 ?hs2 ?_
                             case hI2 => (rw [show (natInts c).drop (j + 1) = [] by apply List.drop_eq_nil_of_le; rw [natInts_length, HJL.out]; exact Nat.le_refl _]; exact IntsRd.none_left (by unfold maxLen; omega))
                             case hs2 => exact Below.size (And.left (by assumption))
                             case hn2 => simp [natInts_length]; try omega
                             case hl2 => rw [HL1.out]; simp [natInts_length]; omega
                             case ho2 => (first | exact hown | exact hown.alloc _)
                             intro L2 A2 c2 w2 hL2 hown2 hgrow2 hge2 hI2
                             have HLE : Hid (L2 = natInts (c.eraseIdx j)) := by rw [hL2, HL1.out]; exact natInts_erase c j
                             clear hL2
                             have hq2 := held_grown (wr := wr) (by assumption) hgrow2 hge2)
                          | (go_at_call 18
                             refine (with_any2 (l := c.eraseIdx j) (hTr.below ?hb3) HLE.out hI2 HER.out ?hn3).mono ?_
                             case hb3 => exact And.left (by assumption)
                             case hn3 => have := List.length_eraseIdx_le c j; omega
                             rintro e w5 ⟨A5, c5, rfl, hT5, hb5⟩
                             have hq5 := held_step (wr := wr) (by assumption) hb5)
                          | (go_at_call 11
                             with_reducible refine (dysolve_any hT5).mono ?_
                             rintro e w6 ⟨v6, rfl, hv6, hb6⟩
                             have hq6 := held_step (wr := wr) (by assumption) hb6))
                      all_goals
                        have hq6' := hq6
                        simp only [HCEJ.out]
                        have hbE := hbW.trans (hq6'.1.mono hbW.size)
                        clear hq6 hq6'
                        go_wp2_with fail
                        go_roundw
                        case rel => exact ⟨j + 1, by omega, by go_num, hbE⟩
                        case measure => simp [intOf]; omega
                    · have hcap2 : (kc == j + 1) = false := by simp [hcap]
                      go_wp2_with fail
                      go_region_held3 (fun w' => Below wr.heap.size wr w' ∧ (∀ b o, b < wr.heap.size → w'.cell? ⟨b, o, none⟩ = wr.cell? ⟨b, o, none⟩)) (first | exact held_drew _ | assumption | exact held_alloc (by assumption) _)
                        (first
                          | (refine step_append_ints2 rfl (.tmp 115) (.tmp 118) 33 3 i0 rfl Tryd.underlying33 hi0 hz0 hz1 hz2 wr.heap.size (.slice (some ⟨_, 0, none⟩) 0 0) [] rfl ?ho (some ⟨kb, ko, none⟩) kc j ((natInts c).take j) rfl ?hn ((hkr.below ?hb).take j) (by simp) ?hl ?hs ?_
                             case hb => exact And.left (by assumption)
                             case hs => exact Below.size (And.left (by assumption))
                             case hn => simp [natInts_length]; omega
                             case hl => simp [natInts_length]; omega
                             case ho => (first | exact own_lit0 _ (by simp) (by simp) | exact (own_lit0 _ (by simp) (by simp)).alloc _)
                             intro L1 A1 c1 w1 hL1 hown hgrow hge hI1
                             have HL1 := Lib.hid hL1
                             clear hL1
                             have hq := held_grown (wr := wr) (by assumption) hgrow hge)
                          | (refine step_append_ints2 rfl (.tmp 119) (.tmp 123) 33 3 i0 rfl Tryd.underlying33 hi0 hz0 hz1 hz2 wr.heap.size (.slice A1 L1.length c1) L1 rfl ?ho2 (some ⟨kb, ko + (j + 1), none⟩) (kc - (j + 1)) (c.length - (j + 1)) ((natInts c).drop (j + 1)) rfl ?hn2 ?hI2 hI1.wf ?hl2 ?hs2 ?_
                             case hI2 => exact ((hkr.below (And.left (by assumption))).drop (j + 1))
                             case hs2 => exact Below.size (And.left (by assumption))
                             case hn2 => simp [natInts_length]; try omega
                             case hl2 => rw [HL1.out]; simp [natInts_length]; omega
                             case ho2 => (first | exact hown | exact hown.alloc _)
                             intro L2 A2 c2 w2 hL2 hown2 hgrow2 hge2 hI2
                             have HLE : Hid (L2 = natInts (c.eraseIdx j)) := by rw [hL2, HL1.out]; exact natInts_erase c j
                             clear hL2
                             have hq2 := held_grown (wr := wr) (by assumption) hgrow2 hge2)
                          | (go_at_call 18
                             refine (with_any2 (l := c.eraseIdx j) (hTr.below ?hb3) HLE.out hI2 HER.out ?hn3).mono ?_
                             case hb3 => exact And.left (by assumption)
                             case hn3 => have := List.length_eraseIdx_le c j; omega
                             rintro e w5 ⟨A5, c5, rfl, hT5, hb5⟩
                             have hq5 := held_step (wr := wr) (by assumption) hb5)
                          | (go_at_call 11
                             with_reducible refine (dysolve_any hT5).mono ?_
                             rintro e w6 ⟨v6, rfl, hv6, hb6⟩
                             have hq6 := held_step (wr := wr) (by assumption) hb6))
                      all_goals
                        have hq6' := hq6
                        simp only [HCEJ.out]
                        have hbE := hbW.trans (hq6'.1.mono hbW.size)
                        clear hq6 hq6'
                        go_wp2_with fail
                        go_roundw
                        case rel => exact ⟨j + 1, by omega, by go_num, hbE⟩
                        case measure => simp [intOf]; omega
                  · obtain rfl : j = c.length := by omega
                    have hki : ¬ ((c.length : Int) < (c.length : Int)) := by omega
                    go_wp2_with fail
                    refine (shown_any hTb).mono ?_
                    rintro e w9 ⟨rfl, hb9⟩
                    have hB9 := hBB.trans (hb9.mono hBB.size)
                    go_wp2_with fail
                    exact bodyPost_ret (by simp [results, Tryd.f6, go_sem]) rfl ⟨rfl, hB9⟩
        · have hd0 : (taskB t != 0) = true := by simpa using h0
          generalize taskB t = tb at *
          clear h0
          go_wp2_with fail
          refine (shown_any hT).mono ?_
          rintro e w9 ⟨rfl, hb9⟩
          have hB9 := hB.trans (hb9.mono hB.size)
          go_wp2_with fail
          exact bodyPost_ret (by simp [results, Tryd.f6, go_sem]) rfl ⟨rfl, hB9⟩
end Go.Proofs.YtegbbkmppphddaaDoor
