/- The program's 'made'. -/
import Derived.Test.YtegbbkmppphddaaMadeM
import Derived.Test.YtegbbkmppphddaaHeldL
import Derived.Test.YtegbbkmppphddaaSolveW
set_option linter.unusedVariables false
set_option linter.unusedSimpArgs false
namespace Go.Proofs.Ytegbbkmppphddaa
open Go.RowKit

/-- What 'made' returns. -/
def MadeP (t : Task) (ch : Nat → Bool) (w : World) (e : Ending) (w' : World) : Prop := ∃ b, w.heap.size ≤ b ∧ e = .returned (.pointer (some ⟨b, 0, none⟩)) ∧ ProbAt w' b (madeP t ch) ∧ Below w.heap.size w w'

theorem prob_zero {t : Task} (hk : t.ok) (w : World) : ProbAt (w.alloc (.cells #[.int .u8 0, .int .u8 0, .int .u8 0, .int .u8 0, .int .u8 0, .int .u8 0, .int .u8 0, .int .u8 0, .int .u8 0, .int .u8 0, .int .u8 0, .int .u8 0, .int .u8 0, .int .u8 0, .int .u8 0, .int .u8 0, .int .u64 0, .int .u64 0, .int .u64 0, .int .u64 0, .int .u64 0, .int .u64 0, .int .u64 0, .int .u64 0, .int .u64 0, .int .u64 0, .int .u64 0, .int .u64 0, .int .u64 0, .int .u64 0, .int .u64 0, .int .u64 0, .int .i64 t.s0, .int .i64 t.s1, .int .i64 t.s2, .int .i64 t.s3, .int .i64 t.s4, .int .i64 t.s5, .int .i64 t.cloth.threads, .bool false] 89)) w.heap.size { may := fillL 0, unl := List.replicate 16 0, left := t.supply, many := t.cloth.threads.toNat, never := false } := by
  have hth := hk.threads
  have hn : ((t.cloth.threads.toNat : Nat) : Int) = t.cloth.threads := by omega
  refine ⟨?_, rfl, rfl, rfl⟩
  rw [heap_alloc_new]
  simp [PCells, u8s, u64s, ints, fillL, Task.supply, hn, List.replicate]

theorem over_ov {t : Task} (hk : t.ok) {c : Int} {x : Nat} (hx : c = (x : Int)) (hxl : x < t.cloth.crosses.length) : t.cloth.crosses[x].over = ((ov t c : Nat) : Int) := by
  have := (ok_over hk (x := c) (by omega) (by omega)).1
  unfold ov
  rw [hx] at this ⊢
  simp only [Int.toNat_natCast, List.getD_eq_getElem?_getD, List.getElem?_eq_getElem hxl, Option.getD_some] at this ⊢
  omega

theorem unl_lt {t : Task} (h : t.ok) (j : Nat) (hj : j ≤ t.unlike.length) (k : Nat) : (unlW t j).getD k 0 < 65536 := by
  refine Nat.lt_pow_two_of_testBit (n := 16) _ fun c hc => ?_
  rw [Bool.eq_false_iff]
  intro hb
  obtain ⟨i, hi, hx⟩ := (unlW_bit (fun i hi => pair_ov h hi) _ hj k c).1 hb
  have := pair_ov h (i := i) (by omega)
  omega
theorem or_lt {v o : Nat} (hv : v < 65536) (ho : o < 16) : v ||| 2 ^ o < 65536 :=
  Nat.or_lt_two_pow (n := 16) hv (Nat.pow_lt_pow_right (by omega) ho)
theorem or_shl (v o : Nat) (hv : v < 65536) (ho : o < 16) : bits .or .u64 (v : Int) (IntKind.u64.wrap (2 ^ o)) = ((v ||| 2 ^ o : Nat) : Int) := by
  have h2 : IntKind.u64.wrap ((2 : Int) ^ o) = ((2 ^ o : Nat) : Int) := by
    have : o = 0 ∨ o = 1 ∨ o = 2 ∨ o = 3 ∨ o = 4 ∨ o = 5 ∨ o = 6 ∨ o = 7 ∨ o = 8 ∨ o = 9 ∨ o = 10 ∨ o = 11 ∨ o = 12 ∨ o = 13 ∨ o = 14 ∨ o = 15 := by omega
    rcases this with rfl | rfl | rfl | rfl | rfl | rfl | rfl | rfl | rfl | rfl | rfl | rfl | rfl | rfl | rfl | rfl <;> rfl
  have h3 : 2 ^ o < 65536 := Nat.pow_lt_pow_right (n := 16) (by omega) ho
  rw [h2]
  exact u64_or_nat v (2 ^ o) (by omega) (by omega)

set_option maxRecDepth 100000 in
set_option maxHeartbeats 8000000 in
theorem made_any {w : World} {cA : Option Addr} {cc : Nat} {pA : Option Addr} {pc : Nat} {wA : Option Addr} {wc : Nat} {uA : Option Addr} {uc : Nat} {t : Task} (h : TaskRd w cA cc pA pc wA wc uA uc t) (hk : t.ok)
    (fid : Nat) (caps : Array Value) (ch : Nat → Bool) (eg : ∀ args w, (callFunc fid args).run Try.prog w = .ok (.enter fid args) w)
    (hch : ∀ (w' : World) (i : Nat), Below w.heap.size w w' → i < t.wishes.length → Calls Try.prog fid (#[.int .i64 i] ++ caps) w' fun e w'' => e = .returned (.bool (ch i)) ∧ w'' = w') :
    Calls Try.prog 20 #[taskVal cA cc pA pc wA wc uA uc t, .func (.func fid) #[] caps] w (MadeP t ch w) := by
  have hth := hk.threads
  have hT1 := h.below (below_box (.cells #[.int .i64 t.cloth.threads, .slice cA t.cloth.crosses.length cc, .slice pA t.cloth.pins.length pc, .slice wA t.wishes.length wc, .slice uA t.unlike.length uc,
      .int .i64 t.s0, .int .i64 t.s1, .int .i64 t.s2, .int .i64 t.s3, .int .i64 t.s4, .int .i64 t.s5] 41))
  go_enter Try.func20, Try.ntmps20
  go_wp2
  have hP0 := prob_zero hk (w.alloc (.cells #[.int .i64 t.cloth.threads, .slice cA t.cloth.crosses.length cc, .slice pA t.cloth.pins.length pc, .slice wA t.wishes.length wc, .slice uA t.unlike.length uc,
      .int .i64 t.s0, .int .i64 t.s1, .int .i64 t.s2, .int .i64 t.s3, .int .i64 t.s4, .int .i64 t.s5] 41))
  rw [World.size_alloc] at hP0
  obtain ⟨n, hn⟩ := Int.eq_ofNat_of_zero_le (show 0 ≤ t.cloth.threads by omega)
  have hn16 : n ≤ 16 := by omega
  have hnn : t.cloth.threads.toNat = n := by omega
  rw [hnn] at hP0
  have hB0 : Below (w.heap.size + 1) (w.alloc (.cells #[.int .i64 t.cloth.threads, .slice cA t.cloth.crosses.length cc, .slice pA t.cloth.pins.length pc, .slice wA t.wishes.length wc, .slice uA t.unlike.length uc,
      .int .i64 t.s0, .int .i64 t.s1, .int .i64 t.s2, .int .i64 t.s3, .int .i64 t.s4, .int .i64 t.s5] 41)) ((w.alloc (.cells #[.int .i64 t.cloth.threads, .slice cA t.cloth.crosses.length cc, .slice pA t.cloth.pins.length pc, .slice wA t.wishes.length wc, .slice uA t.unlike.length uc,
      .int .i64 t.s0, .int .i64 t.s1, .int .i64 t.s2, .int .i64 t.s3, .int .i64 t.s4, .int .i64 t.s5] 41)).alloc (.cells #[.int .u8 0, .int .u8 0, .int .u8 0, .int .u8 0, .int .u8 0, .int .u8 0, .int .u8 0, .int .u8 0, .int .u8 0, .int .u8 0, .int .u8 0, .int .u8 0, .int .u8 0, .int .u8 0, .int .u8 0, .int .u8 0, .int .u64 0, .int .u64 0, .int .u64 0, .int .u64 0, .int .u64 0, .int .u64 0, .int .u64 0, .int .u64 0, .int .u64 0, .int .u64 0, .int .u64 0, .int .u64 0, .int .u64 0, .int .u64 0, .int .u64 0, .int .u64 0, .int .i64 t.s0, .int .i64 t.s1, .int .i64 t.s2, .int .i64 t.s3, .int .i64 t.s4, .int .i64 t.s5, .int .i64 t.cloth.threads, .bool false] 89)) := (below_box _).mono (by simp)
  have HCH := Lib.hid hch
  have HK := Lib.hid hk
  clear hch hk
  go_loopw [24] (fun i wr => ∃ k : Nat, k ≤ n ∧ i = .int .i64 k ∧ Below (w.heap.size + 1) (w.alloc (.cells #[.int .i64 t.cloth.threads, .slice cA t.cloth.crosses.length cc, .slice pA t.cloth.pins.length pc, .slice wA t.wishes.length wc, .slice uA t.unlike.length uc,
      .int .i64 t.s0, .int .i64 t.s1, .int .i64 t.s2, .int .i64 t.s3, .int .i64 t.s4, .int .i64 t.s5] 41)) wr ∧ ProbAt wr (w.heap.size + 1) { may := fillL k, unl := List.replicate 16 0, left := t.supply, many := n, never := false }) (fun i _ => n - (intOf i).toNat)
  case atStart => exact ⟨0, by omega, rfl, hB0, hP0⟩
  case round =>
    clear hB0 hP0
    obtain ⟨k, hkn, rfl, hbl, hP⟩ := hrel
    obtain ⟨hcell, _⟩ := bcell hbl
    have hszr : w.heap.size + 1 < wr.heap.size := hP.lt
    by_cases hlt : k < n
    · have hc := hP.may (k := k) (by omega)
      have hf := hP.frozen k
      have hP2 := hP.setMay (k := k) (by omega) 63
      simp only [fillL_succ (k := k) (by omega)] at hP2
      have HP2 := Lib.hid hP2
      have hlt' : (k : Int) < t.cloth.threads := by omega
      clear hP hP2
      go_wp2
      go_roundw
      case rel => exact ⟨k + 1, by omega, by go_num, hbl.setCell (p := ⟨w.heap.size + 1, k, none⟩) (by simp) _, HP2.out⟩
      case measure => simp [intOf]; omega
    · obtain rfl : k = n := by omega
      have hlt' : ¬ ((k : Int) < t.cloth.threads) := by omega
      go_wp2
      clear hcell hlt hlt' hkn
      obtain ⟨wo, rfl⟩ : ∃ wo : World, wo = wr := ⟨_, rfl⟩
      go_loopw [36] (fun i wr => ∃ j : Nat, j ≤ t.wishes.length ∧ i = .int .i64 j ∧ Below (w.heap.size + 1) (w.alloc (.cells #[.int .i64 t.cloth.threads, .slice cA t.cloth.crosses.length cc, .slice pA t.cloth.pins.length pc, .slice wA t.wishes.length wc, .slice uA t.unlike.length uc,
      .int .i64 t.s0, .int .i64 t.s1, .int .i64 t.s2, .int .i64 t.s3, .int .i64 t.s4, .int .i64 t.s5] 41)) wr ∧ ProbAt wr (w.heap.size + 1) { may := mayW t ch (fillL k) j, unl := List.replicate 16 0, left := t.supply, many := k, never := false }) (fun i _ => t.wishes.length - (intOf i).toNat)
      case atStart => exact ⟨0, by omega, rfl, hbl, hP⟩
      case round =>
        clear hbl hP hszr
        obtain ⟨j, hj, rfl, hbl, hP⟩ := hrel
        obtain ⟨hcell, _⟩ := bcell hbl
        have hszr : w.heap.size + 1 < wr.heap.size := hP.lt
        by_cases hlt : j < t.wishes.length
        · have hwl := h.wlen
          have hwc := h.wcap
          unfold maxLen at hwc
          obtain ⟨b, off, rfl, hb, k0, k1⟩ := h.wishes.wish hlt
          have hb1 : b < w.heap.size + 1 := by omega
          have hwi := HK.out.wish _ (List.getElem_mem hlt)
          have hwf := (h.wf.wishes _ (List.getElem_mem hlt)).2
          have hgd : t.wishes.getD j default = t.wishes[j] := by simp [hlt]
          have HGD := Lib.hid hgd
          clear hgd
          have hbx : Below w.heap.size w (wr.alloc (.cells #[.int .i64 t.wishes[j].cross, .int .u8 (t.wishes[j].allowed : Nat)] 43)) := (below_box _).trans ((hbl.mono (by omega)).alloc (by omega) _)
          go_wp2_with fail
          refine (HCH.out _ j hbx hlt).mono ?_
          rintro e w2 ⟨rfl, rfl⟩
          have hmw : Hid (mayW t ch (fillL k) (j + 1) = if ch j then (mayW t ch (fillL k) j).set (ov t (t.wishes.getD j default).cross) ((mayW t ch (fillL k) j).getD (ov t (t.wishes.getD j default).cross) 0 &&& (t.wishes.getD j default).allowed) else mayW t ch (fillL k) j) := rfl
          have hP2 := hP.of_block (w' := wr.alloc (.cells #[.int .i64 t.wishes[j].cross, .int .u8 (t.wishes[j].allowed : Nat)] 43)) (Below.heap_alloc wr _ _ hP.lt)
          have hbl2 := hbl.alloc (by omega) (.cells #[.int .i64 t.wishes[j].cross, .int .u8 (t.wishes[j].allowed : Nat)] 43)
          cases hcj : ch j with
          | false =>
            have HCJ := Lib.hid hcj
            have HP2 := Lib.hid hP2
            clear hcj hP2
            go_wp2
            go_roundw
            case rel => exact ⟨j + 1, by omega, by go_num, hbl2, by rw [hmw.out, HCJ.out]; exact HP2.out⟩
            case measure => simp [intOf]; omega
          | true =>
            have HCJ := Lib.hid hcj
            clear hcj
            obtain ⟨x, hx⟩ := Int.eq_ofNat_of_zero_le hwi.1
            have hxl : x < t.cloth.crosses.length := by have := hwi.2.1; omega
            have ho16 := wish_ov HK.out hlt
            rw [HGD.out] at ho16
            have hov : t.cloth.crosses[x].over = ((ov t t.wishes[j].cross : Nat) : Int) := by
              have := (ok_over HK.out hwi.1 hwi.2.1).1
              unfold ov
              rw [hx]
              simp only [Int.toNat_natCast, List.getD_eq_getElem?_getD, List.getElem?_eq_getElem hxl, Option.getD_some]
              rw [hx] at this
              simp only [Int.toNat_natCast, List.getD_eq_getElem?_getD, List.getElem?_eq_getElem hxl, Option.getD_some] at this
              omega
            have e0 : (wr.alloc (.cells #[.int .i64 t.wishes[j].cross, .int .u8 (t.wishes[j].allowed : Nat)] 43)).cell? ⟨wr.heap.size, 0, none⟩ = some (.int .i64 (x : Int)) := by simp [hx]
            have e1 : (wr.alloc (.cells #[.int .i64 t.wishes[j].cross, .int .u8 (t.wishes[j].allowed : Nat)] 43)).cell? ⟨wr.heap.size, 1, none⟩ = some (.int .u8 (t.wishes[j].allowed : Nat)) := by simp
            have hTW := h.below hbx
            obtain ⟨hcellW, _⟩ := bcell hbl2
            have hsW : (wr.alloc (.cells #[.int .i64 t.wishes[j].cross, .int .u8 (t.wishes[j].allowed : Nat)] 43)).heap.size = wr.heap.size + 1 := by simp
            have hrx : wr.heap.size < (wr.alloc (.cells #[.int .i64 t.wishes[j].cross, .int .u8 (t.wishes[j].allowed : Nat)] 43)).heap.size := by omega
            have hpx : w.heap.size + 1 < (wr.alloc (.cells #[.int .i64 t.wishes[j].cross, .int .u8 (t.wishes[j].allowed : Nat)] 43)).heap.size := by omega
            have htx : w.heap.size < (wr.alloc (.cells #[.int .i64 t.wishes[j].cross, .int .u8 (t.wishes[j].allowed : Nat)] 43)).heap.size := by omega
            obtain ⟨o, ho⟩ : ∃ o, o = ov t t.wishes[j].cross := ⟨_, rfl⟩
            rw [← ho] at ho16 hov
            have HO := Lib.hid ho
            have mc := hP2.may ho16
            have mf := hP2.frozen o
            have HP2 := Lib.hid hP2
            have HX := Lib.hid hx
            have HOV := Lib.hid hov
            clear hcell hbl k0 k1 hP hP2 hx hov ho hsW
            have hv64 : (mayW t ch (fillL k) j).getD o 0 < 64 := by
              have q1 := mayW_le t ch (fillL k) j o
              rw [fillL_get (by omega)] at q1
              split at q1 <;> omega
            generalize hvv : (mayW t ch (fillL k) j).getD o 0 = v at *
            have HV := Lib.hid hvv
            clear hvv
            generalize hal : t.wishes[j].allowed = al at *
            have HAL := Lib.hid hal
            clear hal
            generalize (wr.alloc (.cells #[.int .i64 t.wishes[j].cross, .int .u8 (al : Nat)] 43)) = W at *
            have hoi : (o : Int) < 16 := by omega
            have hand := u8_and_nat v al (by omega) hwf
            have HOA : Hid (∀ w', Below W.heap.size W w' → Calls Try.prog 37 #[.agg #[.int .i64 (k : Int), .slice cA t.cloth.crosses.length cc, .slice pA t.cloth.pins.length pc, .slice (some ⟨b, off, none⟩) t.wishes.length wc, .slice uA t.unlike.length uc,
                .int .i64 t.s0, .int .i64 t.s1, .int .i64 t.s2, .int .i64 t.s3, .int .i64 t.s4, .int .i64 t.s5], .int .i64 (x : Int)] w' (fun e w'' => e = .returned (.int .i64 (o : Int)) ∧ Below w'.heap.size w' w'')) := by
              intro w' hb'
              have q1 := over_any (hTW.below hb') x hxl
              rw [HOV.out] at q1
              simp only [taskVal, hn] at q1
              exact q1
            clear hTW
            go_wp2
            refine wp_region_noPanic ?_
            refine wp_region_L (S := (fun w' => Below W.heap.size W w' ∧ (∀ b o, b < W.heap.size → w'.cell? ⟨b, o, none⟩ = W.cell? ⟨b, o, none⟩))) (L := 15) (by kernel_rfl) ?_
            refine wpAnyL_take 20 (i := 0) (oi := { dst := some 44, op := Op.move (Operand.tmp 5), type := 69, pos := "dyeing.go:55", after := #[], guard := none }) (v := ?_) rfl (by kernel_rfl) (by kernel_rfl) (by kernel_rfl) (by kernel_rfl) (by kernel_rfl) (fun _ _ _ h => h) (.inl ⟨by rfl, ?_⟩) (held_drew W) ?_
            rotate_left
            · intro w hSw; (try dsimp only at hSw); go_simp; try (with_reducible rfl)
            try simp only [Act.put, List.setIfInBounds_toArray, List.set_cons_zero, List.set_cons_succ]
            refine wpAnyL_take 20 (i := 1) (oi := { dst := some 45, op := Op.load 41 (Operand.tmp 2), type := 41, pos := "dyeing.go:55", after := #[], guard := none }) (v := ?_) rfl (by kernel_rfl) (by kernel_rfl) (by kernel_rfl) (by kernel_rfl) (by kernel_rfl) (fun _ _ _ h => h) (.inl ⟨by rfl, ?_⟩) (held_drew W) ?_
            rotate_left
            · intro w hSw; (try dsimp only at hSw); go_simp; try (with_reducible rfl)
            try simp only [Act.put, List.setIfInBounds_toArray, List.set_cons_zero, List.set_cons_succ]
            refine wpAnyL_take 20 (i := 2) (oi := { dst := some 46, op := Op.fieldAddr 43 (Operand.tmp 8) 0, type := 0, pos := "dyeing.go:55", after := #[], guard := none }) (v := ?_) rfl (by kernel_rfl) (by kernel_rfl) (by kernel_rfl) (by kernel_rfl) (by kernel_rfl) (fun _ _ _ h => h) (.inl ⟨by rfl, ?_⟩) (held_drew W) ?_
            rotate_left
            · intro w hSw; (try dsimp only at hSw); go_simp; try (with_reducible rfl)
            try simp only [Act.put, List.setIfInBounds_toArray, List.set_cons_zero, List.set_cons_succ]
            refine wpAnyL_take 20 (i := 3) (oi := { dst := some 47, op := Op.load 3 (Operand.tmp 46), type := 3, pos := "dyeing.go:55", after := #[{ on := 2, ground := Ground.data }], guard := none }) (v := ?_) rfl (by kernel_rfl) (by kernel_rfl) (by kernel_rfl) (by kernel_rfl) (by kernel_rfl) (fun _ _ _ h => h) (.inl ⟨by rfl, ?_⟩) (held_drew W) ?_
            rotate_left
            · intro w hSw; (try dsimp only at hSw); go_simp; try (with_reducible rfl)
            try simp only [Act.put, List.setIfInBounds_toArray, List.set_cons_zero, List.set_cons_succ]
            refine wpAnyL_take 20 (i := 5) (oi := { dst := some 49, op := Op.nilCheck (Operand.tmp 44), type := 0, pos := "dyeing.go:55", after := #[{ on := 0, ground := Ground.data }], guard := none }) (v := ?_) rfl (by kernel_rfl) (by kernel_rfl) (by kernel_rfl) (by kernel_rfl) (by kernel_rfl) (fun _ _ _ h => h) (.inl ⟨by rfl, ?_⟩) (held_drew W) ?_
            rotate_left
            · intro w hSw; (try dsimp only at hSw); go_simp; try (with_reducible rfl)
            try simp only [Act.put, List.setIfInBounds_toArray, List.set_cons_zero, List.set_cons_succ]
            refine wpAnyL_take 20 (i := 6) (oi := { dst := some 50, op := Op.fieldAddr 89 (Operand.tmp 49) 0, type := 0, pos := "dyeing.go:55", after := #[{ on := 5, ground := Ground.data }], guard := none }) (v := ?_) rfl (by kernel_rfl) (by kernel_rfl) (by kernel_rfl) (by kernel_rfl) (by kernel_rfl) (fun _ _ _ h => h) (.inl ⟨by rfl, ?_⟩) (held_drew W) ?_
            rotate_left
            · intro w hSw; (try dsimp only at hSw); go_simp; try (with_reducible rfl)
            try simp only [Act.put, List.setIfInBounds_toArray, List.set_cons_zero, List.set_cons_succ]
            refine wpAnyL_take 20 (i := 9) (oi := { dst := some 53, op := Op.fieldAddr 43 (Operand.tmp 8) 1, type := 0, pos := "dyeing.go:55", after := #[], guard := none }) (v := ?_) rfl (by kernel_rfl) (by kernel_rfl) (by kernel_rfl) (by kernel_rfl) (by kernel_rfl) (fun _ _ _ h => h) (.inl ⟨by rfl, ?_⟩) (held_drew W) ?_
            rotate_left
            · intro w hSw; (try dsimp only at hSw); go_simp; try (with_reducible rfl)
            try simp only [Act.put, List.setIfInBounds_toArray, List.set_cons_zero, List.set_cons_succ]
            refine wpAnyL_take 20 (i := 10) (oi := { dst := some 54, op := Op.load 5 (Operand.tmp 53), type := 5, pos := "dyeing.go:55", after := #[{ on := 9, ground := Ground.data }], guard := none }) (v := ?_) rfl (by kernel_rfl) (by kernel_rfl) (by kernel_rfl) (by kernel_rfl) (by kernel_rfl) (fun _ _ _ h => h) (.inl ⟨by rfl, ?_⟩) (held_drew W) ?_
            rotate_left
            · intro w hSw; (try dsimp only at hSw); go_simp; try (with_reducible rfl)
            try simp only [Act.put, List.setIfInBounds_toArray, List.set_cons_zero, List.set_cons_succ]
            refine wpAnyL_take 20 (i := 12) (oi := { dst := some 56, op := Op.nilCheck (Operand.tmp 44), type := 0, pos := "dyeing.go:55", after := #[{ on := 0, ground := Ground.data }], guard := none }) (v := ?_) rfl (by kernel_rfl) (by kernel_rfl) (by kernel_rfl) (by kernel_rfl) (by kernel_rfl) (fun _ _ _ h => h) (.inl ⟨by rfl, ?_⟩) (held_drew W) ?_
            rotate_left
            · intro w hSw; (try dsimp only at hSw); go_simp; try (with_reducible rfl)
            try simp only [Act.put, List.setIfInBounds_toArray, List.set_cons_zero, List.set_cons_succ]
            refine wpAnyL_take 20 (i := 13) (oi := { dst := some 57, op := Op.fieldAddr 89 (Operand.tmp 56) 0, type := 0, pos := "dyeing.go:55", after := #[{ on := 12, ground := Ground.data }], guard := none }) (v := ?_) rfl (by kernel_rfl) (by kernel_rfl) (by kernel_rfl) (by kernel_rfl) (by kernel_rfl) (fun _ _ _ h => h) (.inl ⟨by rfl, ?_⟩) (held_drew W) ?_
            rotate_left
            · intro w hSw; (try dsimp only at hSw); go_simp; try (with_reducible rfl)
            try simp only [Act.put, List.setIfInBounds_toArray, List.set_cons_zero, List.set_cons_succ]
            refine wpAnyL_one (i := 4) (o := { dst := some 48, op := Op.call { callee := Callee.value (Operand.func 37), args := #[Operand.tmp 45, Operand.tmp 47], argTypes := #[41, 3] }, type := 3, pos := "dyeing.go:55", after := #[{ on := 1, ground := Ground.data }, { on := 3, ground := Ground.data }], guard := none }) (by kernel_rfl) rfl (by rfl) (fun K hK => ?_)
            go_simp
            go_at_call 37
            refine (HOA.out _ (Below.refl _ _).drew).mono ?_
            rintro e w2 ⟨rfl, hq⟩
            have hq2 := held_step (wr := W) (held_drew _) hq
            have mc2 := (hq2.2 _ o hpx).trans mc
            have mf2 := (hq2.1.frozen (p := ⟨w.heap.size + 1, o, none⟩) hpx).trans mf
            refine hK _ _ (fun _ => hq2) ?_
            clear hK K
            try simp only [Act.put, List.setIfInBounds_toArray, List.set_cons_zero, List.set_cons_succ]
            refine wpAnyL_take 20 (i := 7) (oi := { dst := some 51, op := Op.indexAddr 86 (Operand.tmp 50) (Operand.tmp 48), type := 0, pos := "dyeing.go:55", after := #[{ on := 6, ground := Ground.data }, { on := 4, ground := Ground.data }], guard := none }) (v := ?_) rfl (by kernel_rfl) (by kernel_rfl) (by kernel_rfl) (by kernel_rfl) (by kernel_rfl) (fun _ _ _ h => h) (.inl ⟨by rfl, ?_⟩) (by assumption) ?_
            rotate_left
            · intro w hSw; (try dsimp only at hSw); go_simp; try (with_reducible rfl)
            try simp only [Act.put, List.setIfInBounds_toArray, List.set_cons_zero, List.set_cons_succ]
            refine wpAnyL_take 20 (i := 8) (oi := { dst := some 52, op := Op.load 5 (Operand.tmp 51), type := 5, pos := "dyeing.go:55", after := #[{ on := 7, ground := Ground.data }], guard := none }) (v := ?_) rfl (by kernel_rfl) (by kernel_rfl) (by kernel_rfl) (by kernel_rfl) (by kernel_rfl) (fun _ _ _ h => h) (.inl ⟨by rfl, ?_⟩) (by assumption) ?_
            rotate_left
            · intro w hSw; (try dsimp only at hSw); go_simp; try (with_reducible rfl)
            try simp only [Act.put, List.setIfInBounds_toArray, List.set_cons_zero, List.set_cons_succ]
            refine wpAnyL_take 20 (i := 11) (oi := { dst := some 55, op := Op.binOp BinOp.and 5 (Operand.tmp 52) (Operand.tmp 54) 5, type := 5, pos := "dyeing.go:55", after := #[{ on := 8, ground := Ground.data }, { on := 10, ground := Ground.data }], guard := none }) (v := ?_) rfl (by kernel_rfl) (by kernel_rfl) (by kernel_rfl) (by kernel_rfl) (by kernel_rfl) (fun _ _ _ h => h) (.inl ⟨by rfl, ?_⟩) (by assumption) ?_
            rotate_left
            · intro w hSw; (try dsimp only at hSw); go_simp; try (with_reducible rfl)
            try simp only [Act.put, List.setIfInBounds_toArray, List.set_cons_zero, List.set_cons_succ]
            refine wpAnyL_take 20 (i := 14) (oi := { dst := some 58, op := Op.indexAddr 86 (Operand.tmp 57) (Operand.tmp 48), type := 0, pos := "dyeing.go:55", after := #[{ on := 13, ground := Ground.data }, { on := 4, ground := Ground.data }, { on := 0, ground := Ground.phase }, { on := 1, ground := Ground.phase }, { on := 2, ground := Ground.phase }, { on := 3, ground := Ground.phase }, { on := 4, ground := Ground.phase }, { on := 5, ground := Ground.phase }, { on := 6, ground := Ground.phase }, { on := 7, ground := Ground.phase }, { on := 8, ground := Ground.phase }, { on := 9, ground := Ground.phase }, { on := 10, ground := Ground.phase }, { on := 11, ground := Ground.phase }], guard := none }) (v := ?_) rfl (by kernel_rfl) (by kernel_rfl) (by kernel_rfl) (by kernel_rfl) (by kernel_rfl) (fun _ _ _ h => h) (.inl ⟨by rfl, ?_⟩) (by assumption) ?_
            rotate_left
            · intro w hSw; (try dsimp only at hSw); go_simp; try (with_reducible rfl)
            try simp only [Act.put, List.setIfInBounds_toArray, List.set_cons_zero, List.set_cons_succ]
            refine wpAnyL_one (i := 15) (o := { dst := none, op := Op.store 5 (Operand.tmp 58) (Operand.tmp 55), type := 0, pos := "dyeing.go:55", after := #[{ on := 14, ground := Ground.data }, { on := 11, ground := Ground.data }, { on := 4, ground := Ground.chain }, { on := 0, ground := Ground.phase }, { on := 1, ground := Ground.phase }, { on := 2, ground := Ground.phase }, { on := 3, ground := Ground.phase }, { on := 4, ground := Ground.phase }, { on := 5, ground := Ground.phase }, { on := 6, ground := Ground.phase }, { on := 7, ground := Ground.phase }, { on := 8, ground := Ground.phase }, { on := 9, ground := Ground.phase }, { on := 10, ground := Ground.phase }, { on := 11, ground := Ground.phase }], guard := none }) (by kernel_rfl) rfl (by rfl) (fun K hK => ?_)
            go_simp
            refine hK _ _ (fun hne => absurd rfl hne) ?_
            clear hK K
            try simp only [Act.put, List.setIfInBounds_toArray, List.set_cons_zero, List.set_cons_succ]
            refine wpAnyL_done (by kernel_rfl) ?_ _
            refine NoPanic.normal ?_
            have hP3 := (HP2.out.of_block (hq2.1.block _ hpx)).setMay ho16 (v &&& al)
            have hB3 : Below (w.heap.size + 1) (w.alloc (.cells #[.int .i64 t.cloth.threads, .slice cA t.cloth.crosses.length cc, .slice pA t.cloth.pins.length pc, .slice (some ⟨b, off, none⟩) t.wishes.length wc, .slice uA t.unlike.length uc,
                .int .i64 t.s0, .int .i64 t.s1, .int .i64 t.s2, .int .i64 t.s3, .int .i64 t.s4, .int .i64 t.s5] 41)) w2 := hbl2.trans (hq2.1.mono (by omega))
            have hmw' := hmw.out
            rw [HCJ.out, if_pos rfl, HGD.out, ← HO.out, HV.out, HAL.out] at hmw'
            simp only [← hmw'] at hP3
            have HP3 := Lib.hid hP3
            have HB3 := Lib.hid hB3
            clear hP3 hB3 hmw'
            go_wp2
            go_roundw
            case rel => exact ⟨j + 1, by omega, by go_num, HB3.out.setCell (p := ⟨w.heap.size + 1, o, none⟩) (by simp) _, HP3.out⟩
            case measure => simp [intOf]; omega
        · obtain rfl : j = t.wishes.length := by omega
          clear hlt hj
          obtain ⟨MW, hMW⟩ : ∃ MW, MW = mayW t ch (fillL k) t.wishes.length := ⟨_, rfl⟩
          rw [← hMW] at hP
          have HMW := Lib.hid hMW
          clear hMW
          go_wp2
          clear hcell
          obtain ⟨wo, rfl⟩ : ∃ wo : World, wo = wr := ⟨_, rfl⟩
          go_loopw [63] (fun i wr => ∃ j : Nat, j ≤ t.unlike.length ∧ i = .int .i64 j ∧ Below (w.heap.size + 1) (w.alloc (.cells #[.int .i64 t.cloth.threads, .slice cA t.cloth.crosses.length cc, .slice pA t.cloth.pins.length pc, .slice wA t.wishes.length wc, .slice uA t.unlike.length uc,
      .int .i64 t.s0, .int .i64 t.s1, .int .i64 t.s2, .int .i64 t.s3, .int .i64 t.s4, .int .i64 t.s5] 41)) wr ∧ ProbAt wr (w.heap.size + 1) { may := MW, unl := unlW t j, left := t.supply, many := k, never := nevW t j }) (fun i _ => t.unlike.length - (intOf i).toNat)
          case atStart => exact ⟨0, by omega, rfl, hbl, hP⟩
          case round =>
            clear hbl hP hszr
            obtain ⟨j, hj, rfl, hbl, hP⟩ := hrel
            obtain ⟨hcell, _⟩ := bcell hbl
            have hszr : w.heap.size + 1 < wr.heap.size := hP.lt
            by_cases hlt : j < t.unlike.length
            · have hul := h.ulen
              have huc := h.ucap
              unfold maxLen at huc
              obtain ⟨b, off, rfl, hb, k0, k1⟩ := h.unlike.pair hlt
              have hb1 : b < w.heap.size + 1 := by omega
              have hui := HK.out.pair _ (List.getElem_mem hlt)
              obtain ⟨x, hx⟩ := Int.eq_ofNat_of_zero_le hui.1
              obtain ⟨y, hy⟩ := Int.eq_ofNat_of_zero_le hui.2.2.1
              rw [hx] at k0
              rw [hy] at k1
              have hxl : x < t.cloth.crosses.length := by have := hui.2.1; omega
              have hyl : y < t.cloth.crosses.length := by have := hui.2.2.2.1; omega
              have hbl2 := hbl.alloc (by omega) (.cells #[.int .i64 (x : Int), .int .i64 (y : Int)] 46)
              have hbx : Below w.heap.size w (wr.alloc (.cells #[.int .i64 (x : Int), .int .i64 (y : Int)] 46)) := (below_box _).trans ((hbl.mono (by omega)).alloc (by omega) _)
              have hgd : t.unlike.getD j default = t.unlike[j] := by simp [hlt]
              have HGD := Lib.hid hgd
              clear hgd
              have ho16 := pair_ov HK.out hlt
              rw [HGD.out] at ho16
              have hox : t.cloth.crosses[x].over = ((ov t t.unlike[j].1 : Nat) : Int) := over_ov HK.out hx hxl
              have hoy : t.cloth.crosses[y].over = ((ov t t.unlike[j].2 : Nat) : Int) := over_ov HK.out hy hyl
              have hP2 := hP.of_block (w' := (wr.alloc (.cells #[.int .i64 (x : Int), .int .i64 (y : Int)] 46))) (Below.heap_alloc wr _ _ hP.lt)
              have hTW := h.below hbx
              obtain ⟨hcellW, _⟩ := bcell hbl2
              have hsW : (wr.alloc (.cells #[.int .i64 (x : Int), .int .i64 (y : Int)] 46)).heap.size = wr.heap.size + 1 := by simp
              have e0 : (wr.alloc (.cells #[.int .i64 (x : Int), .int .i64 (y : Int)] 46)).cell? ⟨wr.heap.size, 0, none⟩ = some (.int .i64 (x : Int)) := by simp
              have e1 : (wr.alloc (.cells #[.int .i64 (x : Int), .int .i64 (y : Int)] 46)).cell? ⟨wr.heap.size, 1, none⟩ = some (.int .i64 (y : Int)) := by simp
              have hrx : wr.heap.size < (wr.alloc (.cells #[.int .i64 (x : Int), .int .i64 (y : Int)] 46)).heap.size := by omega
              have hpx : w.heap.size + 1 < (wr.alloc (.cells #[.int .i64 (x : Int), .int .i64 (y : Int)] 46)).heap.size := by omega
              have htx : w.heap.size < (wr.alloc (.cells #[.int .i64 (x : Int), .int .i64 (y : Int)] 46)).heap.size := by omega
              obtain ⟨o1, ho1⟩ : ∃ o, o = ov t t.unlike[j].1 := ⟨_, rfl⟩
              obtain ⟨o2, ho2⟩ : ∃ o, o = ov t t.unlike[j].2 := ⟨_, rfl⟩
              rw [← ho1, ← ho2] at ho16
              rw [← ho1] at hox
              rw [← ho2] at hoy
              have HO1 := Lib.hid ho1
              have HO2 := Lib.hid ho2
              have HP2 := Lib.hid hP2
              have HOX := Lib.hid hox
              have HOY := Lib.hid hoy
              clear hx hy hP hP2 hox hoy ho1 ho2 hui
              go_wp2
              clear hcell hbl k0 k1 hsW
              generalize (wr.alloc (.cells #[.int .i64 (x : Int), .int .i64 (y : Int)] 46)) = W at *
              have HOA : Hid (∀ w', Below W.heap.size W w' → Calls Try.prog 37 #[.agg #[.int .i64 (k : Int), .slice cA t.cloth.crosses.length cc, .slice pA t.cloth.pins.length pc, .slice wA t.wishes.length wc, .slice (some ⟨b, off, none⟩) t.unlike.length uc,
                  .int .i64 t.s0, .int .i64 t.s1, .int .i64 t.s2, .int .i64 t.s3, .int .i64 t.s4, .int .i64 t.s5], .int .i64 (x : Int)] w' (fun e w'' => e = .returned (.int .i64 (o1 : Int)) ∧ Below w'.heap.size w' w'')) := by
                intro w' hb'
                have q1 := over_any (hTW.below hb') x hxl
                rw [HOX.out] at q1
                simp only [taskVal, hn] at q1
                exact q1
              have HOB : Hid (∀ w', Below W.heap.size W w' → Calls Try.prog 37 #[.agg #[.int .i64 (k : Int), .slice cA t.cloth.crosses.length cc, .slice pA t.cloth.pins.length pc, .slice wA t.wishes.length wc, .slice (some ⟨b, off, none⟩) t.unlike.length uc,
                  .int .i64 t.s0, .int .i64 t.s1, .int .i64 t.s2, .int .i64 t.s3, .int .i64 t.s4, .int .i64 t.s5], .int .i64 (y : Int)] w' (fun e w'' => e = .returned (.int .i64 (o2 : Int)) ∧ Below w'.heap.size w' w'')) := by
                intro w' hb'
                have q1 := over_any (hTW.below hb') y hyl
                rw [HOY.out] at q1
                simp only [taskVal, hn] at q1
                exact q1
              clear hTW
              refine wp_region_noPanic ?_
              refine wp_region_held_drew (S := (fun w' => Below W.heap.size W w' ∧ (∀ b o, b < W.heap.size → w'.cell? ⟨b, o, none⟩ = W.cell? ⟨b, o, none⟩))) (by kernel_rfl) ?_ (fun hHeld => ?_)
              · exact held_drew _
              refine wpAnyH_take (i := 0) (oi := { dst := some 67, op := Op.load 41 (Operand.tmp 2), type := 41, pos := "dyeing.go:59", after := #[], guard := none }) (v := ?_) rfl (by kernel_rfl) (by kernel_rfl) (by kernel_rfl) (fun _ _ _ h => h) (.inl ⟨by rfl, ?_⟩) (by assumption) ?_
              rotate_left
              · intro w hSw; (try dsimp only at hSw); go_simp; try (with_reducible rfl)
              try simp only [Act.put, List.setIfInBounds_toArray, List.set_cons_zero, List.set_cons_succ]
              refine wpAnyH_take (i := 1) (oi := { dst := some 68, op := Op.indexAddr 46 (Operand.tmp 10) (Operand.const (Value.int IntKind.i64 0)), type := 0, pos := "dyeing.go:59", after := #[], guard := none }) (v := ?_) rfl (by kernel_rfl) (by kernel_rfl) (by kernel_rfl) (fun _ _ _ h => h) (.inl ⟨by rfl, ?_⟩) (by assumption) ?_
              rotate_left
              · intro w hSw; (try dsimp only at hSw); go_simp; try (with_reducible rfl)
              try simp only [Act.put, List.setIfInBounds_toArray, List.set_cons_zero, List.set_cons_succ]
              refine wpAnyH_take (i := 2) (oi := { dst := some 69, op := Op.load 3 (Operand.tmp 68), type := 3, pos := "dyeing.go:59", after := #[{ on := 1, ground := Ground.data }], guard := none }) (v := ?_) rfl (by kernel_rfl) (by kernel_rfl) (by kernel_rfl) (fun _ _ _ h => h) (.inl ⟨by rfl, ?_⟩) (by assumption) ?_
              rotate_left
              · intro w hSw; (try dsimp only at hSw); go_simp; try (with_reducible rfl)
              try simp only [Act.put, List.setIfInBounds_toArray, List.set_cons_zero, List.set_cons_succ]
              refine wpAnyH_take (i := 4) (oi := { dst := some 71, op := Op.load 41 (Operand.tmp 2), type := 41, pos := "dyeing.go:59", after := #[], guard := none }) (v := ?_) rfl (by kernel_rfl) (by kernel_rfl) (by kernel_rfl) (fun _ _ _ h => h) (.inl ⟨by rfl, ?_⟩) (by assumption) ?_
              rotate_left
              · intro w hSw; (try dsimp only at hSw); go_simp; try (with_reducible rfl)
              try simp only [Act.put, List.setIfInBounds_toArray, List.set_cons_zero, List.set_cons_succ]
              refine wpAnyH_take (i := 5) (oi := { dst := some 72, op := Op.indexAddr 46 (Operand.tmp 10) (Operand.const (Value.int IntKind.i64 1)), type := 0, pos := "dyeing.go:59", after := #[], guard := none }) (v := ?_) rfl (by kernel_rfl) (by kernel_rfl) (by kernel_rfl) (fun _ _ _ h => h) (.inl ⟨by rfl, ?_⟩) (by assumption) ?_
              rotate_left
              · intro w hSw; (try dsimp only at hSw); go_simp; try (with_reducible rfl)
              try simp only [Act.put, List.setIfInBounds_toArray, List.set_cons_zero, List.set_cons_succ]
              refine wpAnyH_take (i := 6) (oi := { dst := some 73, op := Op.load 3 (Operand.tmp 72), type := 3, pos := "dyeing.go:59", after := #[{ on := 5, ground := Ground.data }], guard := none }) (v := ?_) rfl (by kernel_rfl) (by kernel_rfl) (by kernel_rfl) (fun _ _ _ h => h) (.inl ⟨by rfl, ?_⟩) (by assumption) ?_
              rotate_left
              · intro w hSw; (try dsimp only at hSw); go_simp; try (with_reducible rfl)
              try simp only [Act.put, List.setIfInBounds_toArray, List.set_cons_zero, List.set_cons_succ]
              refine wpAnyH_ready (rs := [3]) (by kernel_rfl) (by simp) ?_
              refine AllReadyH.cons (o := { dst := some 70, op := Op.call { callee := Callee.value (Operand.func 37), args := #[Operand.tmp 67, Operand.tmp 69], argTypes := #[41, 3] }, type := 3, pos := "dyeing.go:59", after := #[{ on := 0, ground := Ground.data }, { on := 2, ground := Ground.data }], guard := none }) rfl (fun K hK => ?_) AllReadyH.nil
              go_simp
              go_at_call 37
              refine (HOA.out _ (Below.refl _ _).drew).mono ?_
              rintro e w2 ⟨rfl, hq⟩
              have hq2 := held_step (wr := W) hHeld hq
              clear hHeld
              refine hK.out _ _ (by assumption) (fun hHeld => ?_)
              clear hK K
              try simp only [Act.put, List.setIfInBounds_toArray, List.set_cons_zero, List.set_cons_succ]
              refine wpAnyH_ready (rs := [7]) (by kernel_rfl) (by simp) ?_
              refine AllReadyH.cons (o := { dst := some 74, op := Op.call { callee := Callee.value (Operand.func 37), args := #[Operand.tmp 71, Operand.tmp 73], argTypes := #[41, 3] }, type := 3, pos := "dyeing.go:59", after := #[{ on := 4, ground := Ground.data }, { on := 6, ground := Ground.data }, { on := 3, ground := Ground.chain }], guard := none }) rfl (fun K hK => ?_) AllReadyH.nil
              go_simp
              go_at_call 37
              refine (HOB.out _ hq2.1).mono ?_
              rintro e w3 ⟨rfl, hq'⟩
              have hq3 := held_step (wr := W) hq2 hq'
              clear hq2 hq hq'
              refine hK.out _ _ (by assumption) (fun hHeld => ?_)
              clear hK K
              try simp only [Act.put, List.setIfInBounds_toArray, List.set_cons_zero, List.set_cons_succ]
              refine wpAnyH_take (i := 8) (oi := { dst := some 11, op := Op.assign (Operand.tmp 70), type := 3, pos := "dyeing.go:59", after := #[{ on := 3, ground := Ground.data }, { on := 7, ground := Ground.chain }, { on := 0, ground := Ground.phase }, { on := 1, ground := Ground.phase }, { on := 2, ground := Ground.phase }, { on := 3, ground := Ground.phase }, { on := 4, ground := Ground.textOnly Departure.lateStores }, { on := 5, ground := Ground.textOnly Departure.lateStores }, { on := 6, ground := Ground.textOnly Departure.lateStores }, { on := 7, ground := Ground.textOnly Departure.lateStoresUnsure }], guard := none }) (v := ?_) rfl (by kernel_rfl) (by kernel_rfl) (by kernel_rfl) (fun _ _ _ h => h) (.inl ⟨by rfl, ?_⟩) (by assumption) ?_
              rotate_left
              · intro w hSw; (try dsimp only at hSw); go_simp; try (with_reducible rfl)
              try simp only [Act.put, List.setIfInBounds_toArray, List.set_cons_zero, List.set_cons_succ]
              refine wpAnyH_take (i := 9) (oi := { dst := some 12, op := Op.assign (Operand.tmp 74), type := 3, pos := "dyeing.go:59", after := #[{ on := 7, ground := Ground.data }, { on := 8, ground := Ground.chain }, { on := 0, ground := Ground.phase }, { on := 1, ground := Ground.phase }, { on := 2, ground := Ground.phase }, { on := 3, ground := Ground.phase }, { on := 4, ground := Ground.phase }, { on := 5, ground := Ground.phase }, { on := 6, ground := Ground.phase }, { on := 7, ground := Ground.phase }, { on := 8, ground := Ground.phase }], guard := none }) (v := ?_) rfl (by kernel_rfl) (by kernel_rfl) (by kernel_rfl) (fun _ _ _ h => h) (.inl ⟨by rfl, ?_⟩) (by assumption) ?_
              rotate_left
              · intro w hSw; (try dsimp only at hSw); go_simp; try (with_reducible rfl)
              try simp only [Act.put, List.setIfInBounds_toArray, List.set_cons_zero, List.set_cons_succ]
              refine wpAnyH_done (by kernel_rfl) ?_ _
              refine NoPanic.normal ?_
              obtain ⟨hq4, hqc4⟩ := hq3
              have hP3 := HP2.out.of_block (hq4.block _ hpx)
              have hz3 : w.heap.size + 1 < w3.heap.size := hP3.lt
              have hB3 : Below (w.heap.size + 1) (w.alloc (.cells #[.int .i64 t.cloth.threads, .slice cA t.cloth.crosses.length cc, .slice pA t.cloth.pins.length pc, .slice wA t.wishes.length wc, .slice (some ⟨b, off, none⟩) t.unlike.length uc,
      .int .i64 t.s0, .int .i64 t.s1, .int .i64 t.s2, .int .i64 t.s3, .int .i64 t.s4, .int .i64 t.s5] 41)) w3 := hbl2.trans (hq4.mono (by omega))
              have HB3 := Lib.hid hB3
              clear hB3 hqc4 hq4 hHeld hcellW hbl2 hbx e0 e1 HOA HOB HOX HOY HP2
              obtain ⟨h1o, h2o⟩ := ho16
              have hoi1 : (o1 : Int) < 16 := by omega
              have hoi2 : (o2 : Int) < 16 := by omega
              have m1 := hP3.unl h1o
              have f1 := hP3.frozen (16 + o1)
              simp only at m1
              obtain ⟨U, hU⟩ : ∃ U, U = unlW t j := ⟨_, rfl⟩
              have hUl : U.length = 16 := by rw [hU]; exact unlW_length t j
              rw [← hU] at hP3 m1
              have hUb := unl_lt HK.out j (by omega)
              rw [← hU] at hUb
              have HU := Lib.hid hU
              clear hU
              have hb1v := hUb o1
              generalize hv1 : U.getD o1 0 = v1 at m1 hb1v
              have s1 := or_shl v1 o2 (by omega) h2o
              have hP4 := hP3.setUnl h1o (v1 ||| 2 ^ o2)
              have hP4 := hP4.of_block (w' := (w3.setCell ⟨w.heap.size + 1, 16 + o1, none⟩ (.int .u64 ((v1 ||| 2 ^ o2 : Nat) : Int))).drew) rfl
              have hB4 := (HB3.out.setCell (p := ⟨w.heap.size + 1, 16 + o1, none⟩) (by simp) (.int .u64 ((v1 ||| 2 ^ o2 : Nat) : Int))).drew
              have hz4 : w.heap.size + 1 < ((w3.setCell ⟨w.heap.size + 1, 16 + o1, none⟩ (.int .u64 ((v1 ||| 2 ^ o2 : Nat) : Int))).drew).heap.size := hP4.lt
              have HP4 := Lib.hid hP4
              have HB4 := Lib.hid hB4
              have HV1 := Lib.hid hv1
              clear hP3 hP4 hB4 hv1 HB3 hz3
              go_wp2
              go_region
              clear m1 f1 s1
              generalize (w3.setCell ⟨w.heap.size + 1, 16 + o1, none⟩ (.int .u64 ((v1 ||| 2 ^ o2 : Nat) : Int))).drew = w4 at *
              obtain ⟨U2, hU2⟩ : ∃ U2, U2 = U.set o1 (v1 ||| 2 ^ o2) := ⟨_, rfl⟩
              have hP4 := HP4.out
              simp only [← hU2] at hP4
              have hb2v : U2.getD o2 0 < 65536 := by
                rw [hU2, setD (by omega)]
                split
                · exact or_lt (by omega) h2o
                · exact hUb o2
              have m2 := hP4.unl h2o
              have f2 := hP4.frozen (16 + o2)
              simp only at m2
              generalize hv2 : U2.getD o2 0 = v2 at m2 hb2v
              have s2 := or_shl v2 o1 (by omega) h1o
              have hP5 := hP4.setUnl h2o (v2 ||| 2 ^ o1)
              have hP5 := hP5.of_block (w' := (w4.setCell ⟨w.heap.size + 1, 16 + o2, none⟩ (.int .u64 ((v2 ||| 2 ^ o1 : Nat) : Int))).drew) rfl
              have hB5 := (HB4.out.setCell (p := ⟨w.heap.size + 1, 16 + o2, none⟩) (by simp) (.int .u64 ((v2 ||| 2 ^ o1 : Nat) : Int))).drew
              have HU2 := Lib.hid hU2
              have HV2 := Lib.hid hv2
              have HP5 := Lib.hid hP5
              have HB5 := Lib.hid hB5
              clear HP4 HB4 hP4 hU2 hv2 hP5 hB5
              go_wp2
              go_region
              clear m2 f2 s2
              generalize (w4.setCell ⟨w.heap.size + 1, 16 + o2, none⟩ (.int .u64 ((v2 ||| 2 ^ o1 : Nat) : Int))).drew = w5 at *
              have hP5 := HP5.out
              have m3 := hP5.never
              have f3 := hP5.frozen 39
              have hP6 := hP5.setNever (nevW t (j + 1))
              have hz5 : w.heap.size + 1 < w5.heap.size := hP5.lt
              simp only at m3
              have hnw : Hid (nevW t (j + 1) = (nevW t j || decide (o1 = o2))) := by
                have q : nevW t (j + 1) = (nevW t j || decide (ov t (t.unlike.getD j default).1 = ov t (t.unlike.getD j default).2)) := rfl
                rw [HGD.out, ← HO1.out, ← HO2.out] at q
                exact q
              have hul2 : Hid (unlW t (j + 1) = U2.set o2 (v2 ||| 2 ^ o1)) := by
                have q := unlW_succ t j
                rw [HGD.out, ← HO1.out, ← HO2.out, ← HU.out, HV1.out, ← HU2.out, HV2.out] at q
                exact q
              have HP6 := Lib.hid hP6
              have HH := HB5
              clear hP5 hP6 HP5
              cases hnv : nevW t j with
              | true =>
                rw [hnv] at m3
                have HNV := Lib.hid hnv
                clear hnv
                go_wp2
                go_roundw
                case rel => exact ⟨j + 1, by omega, by go_num, HH.out.setCell (p := ⟨w.heap.size + 1, 39, none⟩) (by simp) _, by have q := HP6.out; rw [hnw.out, HNV.out] at q; rw [hul2.out, hnw.out, HNV.out]; exact q⟩
                case measure => simp [intOf]; omega
              | false =>
                rw [hnv] at m3
                have HNV := Lib.hid hnv
                clear hnv
                by_cases heq : o1 = o2
                · have heb : ((o1 : Int) == (o2 : Int)) = true := by simp [heq]
                  have HEQ := Lib.hid heq
                  clear heq
                  go_wp2
                  go_roundw
                  case rel => exact ⟨j + 1, by omega, by go_num, HH.out.setCell (p := ⟨w.heap.size + 1, 39, none⟩) (by simp) _, by have q := HP6.out; have d : decide (o1 = o2) = true := (by simp [HEQ.out]); rw [hnw.out, HNV.out, d] at q; rw [hul2.out, hnw.out, HNV.out, d]; exact q⟩
                  case measure => simp [intOf]; omega
                · have heb : ((o1 : Int) == (o2 : Int)) = false := by simp; omega
                  have HEQ := Lib.hid heq
                  clear heq
                  go_wp2
                  go_roundw
                  case rel => exact ⟨j + 1, by omega, by go_num, HH.out.setCell (p := ⟨w.heap.size + 1, 39, none⟩) (by simp) _, by have q := HP6.out; have d : decide (o1 = o2) = false := (by simp [HEQ.out]); rw [hnw.out, HNV.out, d] at q; rw [hul2.out, hnw.out, HNV.out, d]; exact q⟩
                  case measure => simp [intOf]; omega
            · obtain rfl : j = t.unlike.length := by omega
              go_wp2
              go_ret
              exact ⟨w.heap.size + 1, by omega, rfl, by unfold madeP; rw [hnn, ← HMW.out]; exact hP, (below_box _).trans (hbl.mono (by omega))⟩
end Go.Proofs.Ytegbbkmppphddaa
