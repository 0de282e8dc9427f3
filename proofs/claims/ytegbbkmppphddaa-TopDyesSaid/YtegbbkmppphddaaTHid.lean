/- The program's Hidden; among of one number. -/
import Derived.Test.YtegbbkmppphddaaTShow
set_option linter.unusedVariables false
set_option linter.unusedSimpArgs false
namespace Go.Proofs.Ytegbbkmppphddaa
open Go.RowKit

def hidK (c : Cloth) : Nat → List Int
  | 0 => []
  | k + 1 => if (shL c c.crosses.length k).length = 0 then hidK c k ++ [(k : Int)] else hidK c k
theorem hidK_len (c : Cloth) (k : Nat) : (hidK c k).length ≤ k ∧ ∀ x ∈ hidK c k, 0 ≤ x ∧ x < k := by
  induction k with
  | zero => simp [hidK]
  | succ m ih =>
    simp only [hidK]
    split
    · refine ⟨by simp; exact ih.1, fun x hx => ?_⟩
      rcases List.mem_append.1 hx with hx | hx
      · have := ih.2 x hx; omega
      · obtain rfl : x = (m : Int) := by simpa using hx
        omega
    · exact ⟨by omega, fun x hx => by have := ih.2 x hx; omega⟩
theorem hidK_mem (c : Cloth) {k n : Nat} (hk : k < n) (h : (shL c c.crosses.length k).length = 0) : (k : Int) ∈ hidK c n := by
  induction n with
  | zero => omega
  | succ m ih =>
    simp only [hidK]
    by_cases e : k = m
    · subst e; rw [if_pos h]; simp
    · have := ih (by omega)
      split
      · exact List.mem_append_left _ this
      · exact this

set_option maxRecDepth 100000 in
set_option maxHeartbeats 2000000 in
theorem hidden_any {w : World} {cA : Option Addr} {cc : Nat} {pA : Option Addr} {pc : Nat} {c : Cloth} (h : ClothRd w cA cc pA pc c) (h0 : clothB c = 0) {n : Nat} (hn : n = 4 ∨ n = 6) (hth : c.threads = (n : Nat)) :
    Calls Try.prog 11 #[clothVal cA cc pA pc c] w (LeastPP w (hidK c n)) := by
  have hbx := below_box (w := w) (.cells #[.int .i64 c.threads, .slice cA c.crosses.length cc, .slice pA c.pins.length pc] 36)
  have h1 := h.below hbx
  have H0 := Lib.hid h0
  have HTH := Lib.hid hth
  have hn6 : n ≤ 6 := by omega
  obtain ⟨i0, hi0, hz0, hz1, hz2⟩ := info_parts info_int
  clear h0 hth
  go_enter Try.func11, Try.ntmps11
  go_wp2_with fail
  refine (check_any h1).mono ?_
  rintro e w1 ⟨rfl, hb1⟩
  rw [H0.out]
  have h2 := h1.below hb1
  have hB := hbx.trans (hb1.mono hbx.size)
  have x0 := (hb1.cell (p := ⟨w.heap.size, 0, none⟩) (by simp)).trans (by simp : _ = some (.int .i64 c.threads))
  have x1 := (hb1.cell (p := ⟨w.heap.size, 1, none⟩) (by simp)).trans (by simp : _ = some (.slice cA c.crosses.length cc))
  have x2 := (hb1.cell (p := ⟨w.heap.size, 2, none⟩) (by simp)).trans (by simp : _ = some (.slice pA c.pins.length pc))
  clear hb1 hbx h1
  go_wp2_with fail
  refine (shows_any h2 H0.out hn HTH.out).mono ?_
  rintro e w2 ⟨OB, A, C, rfl, hO1, hO2, hcl, hb2⟩
  have hB2 := hB.trans (hb2.mono hB.size)
  have HCL := Lib.hid hcl
  clear hcl hb2 x0 x1 x2 hn
  have hni : (n : Int) ≤ 6 := by omega
  go_wp2_with fail
  obtain ⟨wo, hwo⟩ : ∃ wo : World, wo = w2 := ⟨_, rfl⟩
  go_loopw [5, 16] (fun v i wr => ∃ (k : Nat) (A' : Option Addr) (c' : Nat), k ≤ n ∧ i = .int .i64 k ∧ v = .slice A' (hidK c k).length c' ∧ wr.ownsRow w2.heap.size 3 1 (.slice A' (hidK c k).length c') (hidK c k).length (ints (hidK c k)) ∧ Below w2.heap.size w2 wr) (fun _ i _ => n - (intOf i).toNat)
  case atStart => exact ⟨0, none, 0, by omega, rfl, rfl, World.ownsRow_nil _ _ _ _, Below.refl _ _⟩
  case round =>
    clear hwo
    obtain ⟨k, A', c', hk, rfl, rfl, hown, hbl⟩ := hrel
    by_cases hkn : k < n
    · have hcell := (hbl.cell (p := ⟨OB, k, none⟩) hO2).trans (HCL.out k hkn)
      have hki : (k : Int) < (n : Int) := by omega
      obtain ⟨hl1, hl2⟩ := hidK_len c k
      have HW := Lib.hid (fun x (hx : x ∈ hidK c k) => show I64 x by have := hl2 x hx; unfold I64; omega)
      have HOW := Lib.hid hown
      have hs0 := hbl.size
      clear hl2 hown
      by_cases hz : (shL c c.crosses.length k).length = 0
      · have HN : Hid (hidK c (k + 1) = hidK c k ++ [(k : Int)]) := by simp only [hidK]; rw [if_pos hz]; exact Lib.hid rfl
        have hzb : (((shL c c.crosses.length k).length : Int) == 0) = true := by simp [hz]
        clear hz
        generalize hidK c k = L at *
        generalize (shL c c.crosses.length k).length = q at *
        go_wp2_with (refine wpList_append_ints rfl (.tmp 24) (.tmp 26) 47 3 i0 rfl Try.underlying47 hi0 hz0 hz1 hz2 w2.heap.size (.slice A' L.length c') L rfl (HOW.out.alloc _) (some ⟨wr.heap.size, 0, none⟩) 1 [(k : Int)] rfl (one_int (k : Int) (by unfold I64; omega) (by simp) (by simp)) HW.out (by simp; omega) (by simp; omega) ?_; intro A3 c3 w3 hown3 hg3 hge3 hat3 hI3)
        have hend : Below w2.heap.size w2 w3 := (hbl.alloc hs0 _).grown hg3 (by simp; omega) hge3
        go_roundw
        case rel => exact ⟨k + 1, A3, c3, by omega, by go_num, by rw [HN.out, List.length_append]; rfl, by rw [HN.out]; exact hown3, hend⟩
        case measure => simp [intOf]; omega
      · have HN : Hid (hidK c (k + 1) = hidK c k) := by simp only [hidK]; rw [if_neg hz]; exact Lib.hid rfl
        have hzb : (((shL c c.crosses.length k).length : Int) == 0) = false := by
          rw [beq_eq_false_iff_ne]; omega
        clear hz
        generalize (shL c c.crosses.length k).length = q at *
        go_wp2_with fail
        go_roundw
        case rel => exact ⟨k + 1, A', c', by omega, by go_num, by rw [HN.out], by rw [HN.out]; exact HOW.out, hbl⟩
        case measure => simp [intOf]; omega
    · obtain rfl : k = n := by omega
      have hki : ¬ ((k : Int) < (k : Int)) := by omega
      have hl2 := (hidK_len c k).2
      have HI := Lib.hid (intsRd_owns hown (fun x hx => show I64 x by have := hl2 x hx; unfold I64; omega))
      have HBB := Lib.hid (hB2.trans (hbl.mono hB2.size))
      clear hown hl2
      go_wp2_with fail
      go_ret2
      exact ⟨A', c', rfl, HI.out, HBB.out⟩

set_option maxRecDepth 100000 in
set_option maxHeartbeats 2000000 in
theorem among_any {w : World} {aA : Option Addr} {ac : Nat} {x : Int} (ha : IntsRd w aA ac [x]) {bA : Option Addr} {bc : Nat} {b : List Int} (hb : IntsRd w bA bc b) (hx : x ∈ b) :
    Calls Try.prog 12 #[.slice aA 1 ac, .slice bA b.length bc] w fun e w' => e = .returned (.bool true) ∧ Below w.heap.size w w' := by
  have hbl := hb.len
  have hbm := hb.cap
  unfold maxLen at hbm
  obtain ⟨q, hq, hqx⟩ := List.getElem_of_mem hx
  have HQX := Lib.hid hqx
  clear hx hqx
  go_enter Try.func12, Try.ntmps12
  go_wp2_with fail
  go_loopw [5] (fun i wr => ∃ k : Nat, k ≤ 1 ∧ i = .int .i64 k ∧ Below w.heap.size w wr) (fun i _ => 1 - (intOf i).toNat)
  case atStart => exact ⟨0, by omega, rfl, Below.refl _ _⟩
  case round =>
    obtain ⟨k, hk, rfl, hbw⟩ := hrel
    by_cases hk1 : k < 1
    · obtain rfl : k = 0 := by omega
      go_wp2_with fail
      obtain ⟨wo, rfl⟩ : ∃ wo : World, wo = wr := ⟨_, rfl⟩
      go_loopw [6, 7] (fun v j wr => ∃ (k : Nat) (is : Bool), k ≤ b.length ∧ j = .int .i64 k ∧ v = .bool is ∧ (q < k → is = true) ∧ Below w.heap.size w wr) (fun _ j _ => b.length - (intOf j).toNat)
      case atStart => exact ⟨0, false, by omega, rfl, rfl, by omega, hbw⟩
      case round =>
        clear hbw
        obtain ⟨k, is, hk, rfl, rfl, his, hbw⟩ := hrel
        by_cases hkb : k < b.length
        · obtain ⟨bb, bo, rfl, hbb, hbc⟩ := (hb.below hbw).rows.int hkb
          obtain ⟨ab, ao, rfl, hab, hac⟩ := (ha.below hbw).rows.int (i := 0) (by simp)
          have hki : (k : Int) < (b.length : Int) := by omega
          have HIS := Lib.hid his
          have HBK : Hid (k = q → b[k] = x) := fun e => by subst e; exact HQX.out
          clear his
          have hac : wr.cell? ⟨ab, ao, none⟩ = some (.int .i64 x) := by simpa using hac
          generalize b[k] = y at *
          go_wp2_with fail
          cases is
          case true =>
            refine wp_region_noPanic ?_
            refine wp_region_held_drew (S := (fun w' => Below wr.heap.size wr w' ∧ (∀ b o, b < wr.heap.size → w'.cell? ⟨b, o, none⟩ = wr.cell? ⟨b, o, none⟩))) (by kernel_rfl) ?_ (fun hHeld => ?_)
            · exact held_drew _
            refine wpAnyH_take (i := 0) (oi := { dst := some 20, op := Op.move (Operand.tmp 6), type := 4, pos := "top27.go:64", after := #[], guard := none }) (v := ?_) rfl (by kernel_rfl) (by kernel_rfl) (by kernel_rfl) (fun _ _ _ h => h) (.inl ⟨by rfl, ?_⟩) (by assumption) ?_
            rotate_left
            · intro w hSw; (try dsimp only at hSw); go_simp; try (with_reducible rfl)
            try simp only [Act.put, List.setIfInBounds_toArray, List.set_cons_zero, List.set_cons_succ]
            refine wpAnyH_take (i := 1) (oi := { dst := some 21, op := Op.move (Operand.tmp 20), type := 4, pos := "top27.go:64", after := #[{ on := 0, ground := Ground.data }], guard := none }) (v := ?_) rfl (by kernel_rfl) (by kernel_rfl) (by kernel_rfl) (fun _ _ _ h => h) (.inl ⟨by rfl, ?_⟩) (by assumption) ?_
            rotate_left
            · intro w hSw; (try dsimp only at hSw); go_simp; try (with_reducible rfl)
            try simp only [Act.put, List.setIfInBounds_toArray, List.set_cons_zero, List.set_cons_succ]
            refine wpAnyH_take (i := 2) (oi := { dst := some 22, op := Op.move (Operand.tmp 0), type := 47, pos := "top27.go:64", after := #[{ on := 1, ground := Ground.guard }], guard := some (1, false) }) (v := undef) rfl (by kernel_rfl) (by kernel_rfl) (by kernel_rfl) (fun _ _ _ h => h) (.inr ⟨by rfl, rfl⟩) (by assumption) ?_
            try simp only [Act.put, List.setIfInBounds_toArray, List.set_cons_zero, List.set_cons_succ]
            refine wpAnyH_take (i := 3) (oi := { dst := some 23, op := Op.move (Operand.tmp 5), type := 3, pos := "top27.go:64", after := #[{ on := 1, ground := Ground.guard }], guard := some (1, false) }) (v := undef) rfl (by kernel_rfl) (by kernel_rfl) (by kernel_rfl) (fun _ _ _ h => h) (.inr ⟨by rfl, rfl⟩) (by assumption) ?_
            try simp only [Act.put, List.setIfInBounds_toArray, List.set_cons_zero, List.set_cons_succ]
            refine wpAnyH_take (i := 4) (oi := { dst := some 24, op := Op.indexAddr 47 (Operand.tmp 22) (Operand.tmp 23), type := 0, pos := "top27.go:64", after := #[{ on := 2, ground := Ground.data }, { on := 3, ground := Ground.data }, { on := 1, ground := Ground.guard }], guard := some (1, false) }) (v := undef) rfl (by kernel_rfl) (by kernel_rfl) (by kernel_rfl) (fun _ _ _ h => h) (.inr ⟨by rfl, rfl⟩) (by assumption) ?_
            try simp only [Act.put, List.setIfInBounds_toArray, List.set_cons_zero, List.set_cons_succ]
            refine wpAnyH_take (i := 5) (oi := { dst := some 25, op := Op.load 3 (Operand.tmp 24), type := 3, pos := "top27.go:64", after := #[{ on := 4, ground := Ground.data }, { on := 1, ground := Ground.guard }], guard := some (1, false) }) (v := undef) rfl (by kernel_rfl) (by kernel_rfl) (by kernel_rfl) (fun _ _ _ h => h) (.inr ⟨by rfl, rfl⟩) (by assumption) ?_
            try simp only [Act.put, List.setIfInBounds_toArray, List.set_cons_zero, List.set_cons_succ]
            refine wpAnyH_take (i := 6) (oi := { dst := some 26, op := Op.move (Operand.tmp 1), type := 47, pos := "top27.go:64", after := #[{ on := 1, ground := Ground.guard }], guard := some (1, false) }) (v := undef) rfl (by kernel_rfl) (by kernel_rfl) (by kernel_rfl) (fun _ _ _ h => h) (.inr ⟨by rfl, rfl⟩) (by assumption) ?_
            try simp only [Act.put, List.setIfInBounds_toArray, List.set_cons_zero, List.set_cons_succ]
            refine wpAnyH_take (i := 7) (oi := { dst := some 27, op := Op.move (Operand.tmp 7), type := 3, pos := "top27.go:64", after := #[{ on := 1, ground := Ground.guard }], guard := some (1, false) }) (v := undef) rfl (by kernel_rfl) (by kernel_rfl) (by kernel_rfl) (fun _ _ _ h => h) (.inr ⟨by rfl, rfl⟩) (by assumption) ?_
            try simp only [Act.put, List.setIfInBounds_toArray, List.set_cons_zero, List.set_cons_succ]
            refine wpAnyH_take (i := 8) (oi := { dst := some 28, op := Op.indexAddr 47 (Operand.tmp 26) (Operand.tmp 27), type := 0, pos := "top27.go:64", after := #[{ on := 6, ground := Ground.data }, { on := 7, ground := Ground.data }, { on := 1, ground := Ground.guard }], guard := some (1, false) }) (v := undef) rfl (by kernel_rfl) (by kernel_rfl) (by kernel_rfl) (fun _ _ _ h => h) (.inr ⟨by rfl, rfl⟩) (by assumption) ?_
            try simp only [Act.put, List.setIfInBounds_toArray, List.set_cons_zero, List.set_cons_succ]
            refine wpAnyH_take (i := 9) (oi := { dst := some 29, op := Op.load 3 (Operand.tmp 28), type := 3, pos := "top27.go:64", after := #[{ on := 8, ground := Ground.data }, { on := 1, ground := Ground.guard }], guard := some (1, false) }) (v := undef) rfl (by kernel_rfl) (by kernel_rfl) (by kernel_rfl) (fun _ _ _ h => h) (.inr ⟨by rfl, rfl⟩) (by assumption) ?_
            try simp only [Act.put, List.setIfInBounds_toArray, List.set_cons_zero, List.set_cons_succ]
            refine wpAnyH_take (i := 10) (oi := { dst := some 30, op := Op.binOp BinOp.eql 3 (Operand.tmp 25) (Operand.tmp 29) 3, type := 4, pos := "top27.go:64", after := #[{ on := 5, ground := Ground.data }, { on := 9, ground := Ground.data }, { on := 1, ground := Ground.guard }], guard := some (1, false) }) (v := undef) rfl (by kernel_rfl) (by kernel_rfl) (by kernel_rfl) (fun _ _ _ h => h) (.inr ⟨by rfl, rfl⟩) (by assumption) ?_
            try simp only [Act.put, List.setIfInBounds_toArray, List.set_cons_zero, List.set_cons_succ]
            refine wpAnyH_take (i := 11) (oi := { dst := some 31, op := Op.pick (Operand.tmp 21) (Operand.const (Value.bool true)) (Operand.tmp 30), type := 4, pos := "top27.go:64", after := #[{ on := 1, ground := Ground.data }, { on := 10, ground := Ground.data }], guard := none }) (v := ?_) rfl (by kernel_rfl) (by kernel_rfl) (by kernel_rfl) (fun _ _ _ h => h) (.inl ⟨by rfl, ?_⟩) (by assumption) ?_
            rotate_left
            · intro w hSw; (try dsimp only at hSw); go_simp; try (with_reducible rfl)
            try simp only [Act.put, List.setIfInBounds_toArray, List.set_cons_zero, List.set_cons_succ]
            refine wpAnyH_take (i := 12) (oi := { dst := some 6, op := Op.assign (Operand.tmp 31), type := 4, pos := "top27.go:64", after := #[{ on := 11, ground := Ground.data }, { on := 1, ground := Ground.chain }, { on := 0, ground := Ground.phase }, { on := 1, ground := Ground.phase }, { on := 2, ground := Ground.phase }, { on := 3, ground := Ground.phase }, { on := 4, ground := Ground.phase }, { on := 5, ground := Ground.phase }, { on := 6, ground := Ground.phase }, { on := 7, ground := Ground.phase }, { on := 8, ground := Ground.phase }, { on := 9, ground := Ground.phase }, { on := 10, ground := Ground.phase }, { on := 11, ground := Ground.phase }], guard := none }) (v := ?_) rfl (by kernel_rfl) (by kernel_rfl) (by kernel_rfl) (fun _ _ _ h => h) (.inl ⟨by rfl, ?_⟩) (by assumption) ?_
            rotate_left
            · intro w hSw; (try dsimp only at hSw); go_simp; try (with_reducible rfl)
            try simp only [Act.put, List.setIfInBounds_toArray, List.set_cons_zero, List.set_cons_succ]
            refine wpAnyH_done (by kernel_rfl) ?_ _
            refine NoPanic.normal ?_
            go_wp2_with fail
            go_roundw
            case rel => exact ⟨k + 1, true, by omega, by go_num, rfl, fun _ => rfl, hbw.drew⟩
            case measure => simp [intOf]; omega
          case false =>
            obtain ⟨v, hv⟩ : ∃ v, v = (x == y) := ⟨_, rfl⟩
            have hxy : (x == y) = v := hv.symm
            have HV := Lib.hid hv
            clear hv
            refine wp_region_noPanic ?_
            refine wp_region_held_drew (S := (fun w' => Below wr.heap.size wr w' ∧ (∀ b o, b < wr.heap.size → w'.cell? ⟨b, o, none⟩ = wr.cell? ⟨b, o, none⟩))) (by kernel_rfl) ?_ (fun hHeld => ?_)
            · exact held_drew _
            refine wpAnyH_take (i := 0) (oi := { dst := some 20, op := Op.move (Operand.tmp 6), type := 4, pos := "top27.go:64", after := #[], guard := none }) (v := ?_) rfl (by kernel_rfl) (by kernel_rfl) (by kernel_rfl) (fun _ _ _ h => h) (.inl ⟨by rfl, ?_⟩) (by assumption) ?_
            rotate_left
            · intro w hSw; (try dsimp only at hSw); go_simp; try (with_reducible rfl)
            try simp only [Act.put, List.setIfInBounds_toArray, List.set_cons_zero, List.set_cons_succ]
            refine wpAnyH_take (i := 1) (oi := { dst := some 21, op := Op.move (Operand.tmp 20), type := 4, pos := "top27.go:64", after := #[{ on := 0, ground := Ground.data }], guard := none }) (v := ?_) rfl (by kernel_rfl) (by kernel_rfl) (by kernel_rfl) (fun _ _ _ h => h) (.inl ⟨by rfl, ?_⟩) (by assumption) ?_
            rotate_left
            · intro w hSw; (try dsimp only at hSw); go_simp; try (with_reducible rfl)
            try simp only [Act.put, List.setIfInBounds_toArray, List.set_cons_zero, List.set_cons_succ]
            refine wpAnyH_take (i := 2) (oi := { dst := some 22, op := Op.move (Operand.tmp 0), type := 47, pos := "top27.go:64", after := #[{ on := 1, ground := Ground.guard }], guard := some (1, false) }) (v := ?_) rfl (by kernel_rfl) (by kernel_rfl) (by kernel_rfl) (fun _ _ _ h => h) (.inl ⟨by rfl, ?_⟩) (by assumption) ?_
            rotate_left
            · intro w hSw; (try dsimp only at hSw); go_simp; try (with_reducible rfl)
            try simp only [Act.put, List.setIfInBounds_toArray, List.set_cons_zero, List.set_cons_succ]
            refine wpAnyH_take (i := 3) (oi := { dst := some 23, op := Op.move (Operand.tmp 5), type := 3, pos := "top27.go:64", after := #[{ on := 1, ground := Ground.guard }], guard := some (1, false) }) (v := ?_) rfl (by kernel_rfl) (by kernel_rfl) (by kernel_rfl) (fun _ _ _ h => h) (.inl ⟨by rfl, ?_⟩) (by assumption) ?_
            rotate_left
            · intro w hSw; (try dsimp only at hSw); go_simp; try (with_reducible rfl)
            try simp only [Act.put, List.setIfInBounds_toArray, List.set_cons_zero, List.set_cons_succ]
            refine wpAnyH_take (i := 4) (oi := { dst := some 24, op := Op.indexAddr 47 (Operand.tmp 22) (Operand.tmp 23), type := 0, pos := "top27.go:64", after := #[{ on := 2, ground := Ground.data }, { on := 3, ground := Ground.data }, { on := 1, ground := Ground.guard }], guard := some (1, false) }) (v := ?_) rfl (by kernel_rfl) (by kernel_rfl) (by kernel_rfl) (fun _ _ _ h => h) (.inl ⟨by rfl, ?_⟩) (by assumption) ?_
            rotate_left
            · intro w hSw; (try dsimp only at hSw); go_simp; try (with_reducible rfl)
            try simp only [Act.put, List.setIfInBounds_toArray, List.set_cons_zero, List.set_cons_succ]
            refine wpAnyH_take (i := 5) (oi := { dst := some 25, op := Op.load 3 (Operand.tmp 24), type := 3, pos := "top27.go:64", after := #[{ on := 4, ground := Ground.data }, { on := 1, ground := Ground.guard }], guard := some (1, false) }) (v := ?_) rfl (by kernel_rfl) (by kernel_rfl) (by kernel_rfl) (fun _ _ _ h => h) (.inl ⟨by rfl, ?_⟩) (by assumption) ?_
            rotate_left
            · intro w hSw; (try dsimp only at hSw); go_simp; try (with_reducible rfl)
            try simp only [Act.put, List.setIfInBounds_toArray, List.set_cons_zero, List.set_cons_succ]
            refine wpAnyH_take (i := 6) (oi := { dst := some 26, op := Op.move (Operand.tmp 1), type := 47, pos := "top27.go:64", after := #[{ on := 1, ground := Ground.guard }], guard := some (1, false) }) (v := ?_) rfl (by kernel_rfl) (by kernel_rfl) (by kernel_rfl) (fun _ _ _ h => h) (.inl ⟨by rfl, ?_⟩) (by assumption) ?_
            rotate_left
            · intro w hSw; (try dsimp only at hSw); go_simp; try (with_reducible rfl)
            try simp only [Act.put, List.setIfInBounds_toArray, List.set_cons_zero, List.set_cons_succ]
            refine wpAnyH_take (i := 7) (oi := { dst := some 27, op := Op.move (Operand.tmp 7), type := 3, pos := "top27.go:64", after := #[{ on := 1, ground := Ground.guard }], guard := some (1, false) }) (v := ?_) rfl (by kernel_rfl) (by kernel_rfl) (by kernel_rfl) (fun _ _ _ h => h) (.inl ⟨by rfl, ?_⟩) (by assumption) ?_
            rotate_left
            · intro w hSw; (try dsimp only at hSw); go_simp; try (with_reducible rfl)
            try simp only [Act.put, List.setIfInBounds_toArray, List.set_cons_zero, List.set_cons_succ]
            refine wpAnyH_take (i := 8) (oi := { dst := some 28, op := Op.indexAddr 47 (Operand.tmp 26) (Operand.tmp 27), type := 0, pos := "top27.go:64", after := #[{ on := 6, ground := Ground.data }, { on := 7, ground := Ground.data }, { on := 1, ground := Ground.guard }], guard := some (1, false) }) (v := ?_) rfl (by kernel_rfl) (by kernel_rfl) (by kernel_rfl) (fun _ _ _ h => h) (.inl ⟨by rfl, ?_⟩) (by assumption) ?_
            rotate_left
            · intro w hSw; (try dsimp only at hSw); go_simp; try (with_reducible rfl)
            try simp only [Act.put, List.setIfInBounds_toArray, List.set_cons_zero, List.set_cons_succ]
            refine wpAnyH_take (i := 9) (oi := { dst := some 29, op := Op.load 3 (Operand.tmp 28), type := 3, pos := "top27.go:64", after := #[{ on := 8, ground := Ground.data }, { on := 1, ground := Ground.guard }], guard := some (1, false) }) (v := ?_) rfl (by kernel_rfl) (by kernel_rfl) (by kernel_rfl) (fun _ _ _ h => h) (.inl ⟨by rfl, ?_⟩) (by assumption) ?_
            rotate_left
            · intro w hSw; (try dsimp only at hSw); go_simp; try (with_reducible rfl)
            try simp only [Act.put, List.setIfInBounds_toArray, List.set_cons_zero, List.set_cons_succ]
            refine wpAnyH_take (i := 10) (oi := { dst := some 30, op := Op.binOp BinOp.eql 3 (Operand.tmp 25) (Operand.tmp 29) 3, type := 4, pos := "top27.go:64", after := #[{ on := 5, ground := Ground.data }, { on := 9, ground := Ground.data }, { on := 1, ground := Ground.guard }], guard := some (1, false) }) (v := ?_) rfl (by kernel_rfl) (by kernel_rfl) (by kernel_rfl) (fun _ _ _ h => h) (.inl ⟨by rfl, ?_⟩) (by assumption) ?_
            rotate_left
            · intro w hSw; (try dsimp only at hSw); go_simp; try (with_reducible rfl)
            try simp only [Act.put, List.setIfInBounds_toArray, List.set_cons_zero, List.set_cons_succ]
            refine wpAnyH_take (i := 11) (oi := { dst := some 31, op := Op.pick (Operand.tmp 21) (Operand.const (Value.bool true)) (Operand.tmp 30), type := 4, pos := "top27.go:64", after := #[{ on := 1, ground := Ground.data }, { on := 10, ground := Ground.data }], guard := none }) (v := ?_) rfl (by kernel_rfl) (by kernel_rfl) (by kernel_rfl) (fun _ _ _ h => h) (.inl ⟨by rfl, ?_⟩) (by assumption) ?_
            rotate_left
            · intro w hSw; (try dsimp only at hSw); go_simp; try (with_reducible rfl)
            try simp only [Act.put, List.setIfInBounds_toArray, List.set_cons_zero, List.set_cons_succ]
            refine wpAnyH_take (i := 12) (oi := { dst := some 6, op := Op.assign (Operand.tmp 31), type := 4, pos := "top27.go:64", after := #[{ on := 11, ground := Ground.data }, { on := 1, ground := Ground.chain }, { on := 0, ground := Ground.phase }, { on := 1, ground := Ground.phase }, { on := 2, ground := Ground.phase }, { on := 3, ground := Ground.phase }, { on := 4, ground := Ground.phase }, { on := 5, ground := Ground.phase }, { on := 6, ground := Ground.phase }, { on := 7, ground := Ground.phase }, { on := 8, ground := Ground.phase }, { on := 9, ground := Ground.phase }, { on := 10, ground := Ground.phase }, { on := 11, ground := Ground.phase }], guard := none }) (v := ?_) rfl (by kernel_rfl) (by kernel_rfl) (by kernel_rfl) (fun _ _ _ h => h) (.inl ⟨by rfl, ?_⟩) (by assumption) ?_
            rotate_left
            · intro w hSw; (try dsimp only at hSw); go_simp; try (with_reducible rfl)
            try simp only [Act.put, List.setIfInBounds_toArray, List.set_cons_zero, List.set_cons_succ]
            refine wpAnyH_done (by kernel_rfl) ?_ _
            refine NoPanic.normal ?_
            go_wp2_with fail
            go_roundw
            case rel => exact ⟨k + 1, v, by omega, by go_num, rfl, (by
              intro h
              by_cases e : k = q
              · rw [HV.out, HBK.out e]; simp
              · have := HIS.out (by omega); cases this), hbw.drew⟩
            case measure => simp [intOf]; omega
        · obtain rfl : k = b.length := by omega
          have hki : ¬ ((b.length : Int) < (b.length : Int)) := by omega
          obtain rfl := his hq
          go_wp2_with fail
          go_roundw
          case rel => exact ⟨0 + 1, by omega, by go_num, hbw⟩
          case measure => simp [intOf]
    · obtain rfl : k = 1 := by omega
      go_wp2_with fail
      go_ret
      exact ⟨rfl, hbw⟩
end Go.Proofs.Ytegbbkmppphddaa
