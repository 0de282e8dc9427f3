/- The reference's clash and Clash. -/
import Derived.Test.YtegbbkmppphddaaDoorRefClash
set_option linter.unusedVariables false
set_option linter.unusedSimpArgs false
namespace Go.Proofs.YtegbbkmppphddaaDoor
open Go.RowKit

def ClOut (w : World) (v : Value) (b : Bool) : Option (List Nat) → Prop
  | none => b = false
  | some l => b = true ∧ ListOut w v (natInts l)
def RClPost (w : World) (r : Option (List Nat)) (e : Ending) (w' : World) : Prop := ∃ v b, e = .returned (.tuple #[v, .bool b]) ∧ ClOut w' v b r ∧ Below w.heap.size w w'
theorem natInts_wf (l : List Nat) (h : ∀ i ∈ l, i < 100) : ∀ x ∈ natInts l, I64 x := by
  intro x hx
  simp only [natInts, List.mem_map] at hx
  obtain ⟨i, hi, rfl⟩ := hx
  have := h i hi
  unfold I64; omega
theorem natInts_snoc (l : List Nat) (k : Nat) : natInts l ++ [(k : Int)] = natInts (l ++ [k]) := by simp [natInts]
theorem clashL_stop {t : Task} {m : Nat} {l : List Nat} {k : Nat} (hk : k < t.wishes.length) {r : Option (List Nat)} (h : clashL t m (l ++ [k]) (k + 1) = r) :
    (List.range' k (t.wishes.length - k)).findSome? (fun i => clashL t m (l ++ [i]) (i + 1)) = r.or ((List.range' (k + 1) (t.wishes.length - (k + 1))).findSome? fun i => clashL t m (l ++ [i]) (i + 1)) := by
  rw [find_range_cons hk]
  simp only [h]
  cases r <;> rfl

set_option maxRecDepth 100000 in
set_option maxHeartbeats 4000000 in
theorem refclash_any (t : Task) (hk : t.ok) (h10 : t.wishes.length ≤ 10) {cA : Option Addr} {cc : Nat} {pA : Option Addr} {pc : Nat} {wA : Option Addr} {wc : Nat} {uA : Option Addr} {uc : Nat} (m : Nat) :
    ∀ (w : World) (lA : Option Addr) (mm lc : Nat) (l : List Nat) (f many : Nat), mm = (natInts l).length → many = l.length + m → (l.length = 0 → f = 0) → (∀ h : 0 < l.length, f = l[l.length - 1] + 1) → l.length + m ≤ 20 → (∀ i ∈ l, i < t.wishes.length) →
    TaskRd w cA cc pA pc wA wc uA uc t → IntsRd w lA lc (natInts l) →
    Calls Tryd.prog 30 #[taskVal cA cc pA pc wA wc uA uc t, .slice lA mm lc, .int .i64 many] w (RClPost w (clashL t m l f)) := by
  induction m with
  | zero =>
    rintro w lA mm lc l f many rfl rfl hf0 hf1 hl20 hlt h hl
    have hth := hk.threads
    have hll := hl.len
    have hlm := hl.cap
    rw [natInts_length] at hll
    unfold maxLen at hlm
    have hT1 := h.below (below_box (.cells #[.int .i64 t.cloth.threads, .slice cA t.cloth.crosses.length cc, .slice pA t.cloth.pins.length pc, .slice wA t.wishes.length wc, .slice uA t.unlike.length uc,
      .int .i64 t.s0, .int .i64 t.s1, .int .i64 t.s2, .int .i64 t.s3, .int .i64 t.s4, .int .i64 t.s5] 30))
    have hL1 := hl.below (below_box (.cells #[.int .i64 t.cloth.threads, .slice cA t.cloth.crosses.length cc, .slice pA t.cloth.pins.length pc, .slice wA t.wishes.length wc, .slice uA t.unlike.length uc,
      .int .i64 t.s0, .int .i64 t.s1, .int .i64 t.s2, .int .i64 t.s3, .int .i64 t.s4, .int .i64 t.s5] 30))
    have hC := Lib.hid (clashL_zero t l f)
    have HLT := Lib.hid hlt
    clear hf0 hf1 hlt
    rw [natInts_length]
    go_enter Tryd.func30, Tryd.ntmps30
    go_wp2_with fail
    refine (with_any hT1 hL1 HLT.out (by omega)).mono ?_
    rintro e w1 ⟨A, c, rfl, hT2, hb1⟩
    simp only [World.size_alloc] at hb1
    have hlen : ((([] : List Int).length + t.cloth.threads.toNat : Nat) : Int) = (withT t l).cloth.threads := by show _ = t.cloth.threads; simp; omega
    have HLEN := Lib.hid hlen
    clear hlen
    go_wp2_with fail
    refine (refsolve_any (withT t l) (withT_ok hk HLT.out) t.cloth.threads.toNat w1 none 0 0 [] rfl hT2 (IntsRd.nil_ _) (fun x h => by cases h) HLEN.out).mono ?_
    rintro e w2 ⟨v, b, rfl, hs, hb2⟩
    have hB : Below w.heap.size w w2 := ((below_box _).trans (hb1.mono (by omega))).trans (hb2.mono (by have := hb1.size; simp at this; omega))
    have hL2 := hl.below hB
    have HBAD : Hid (badB t l = (solveB (withT t l) t.cloth.threads.toNat []).isNone) := rfl
    generalize hq : solveB (withT t l) t.cloth.threads.toNat [] = r at hs
    have HQ := Lib.hid hq
    clear hq
    cases r with
    | none =>
      obtain ⟨rfl, rfl⟩ := hs
      go_wp2_with fail
      go_ret2
      refine ⟨.slice lA l.length lc, true, rfl, ?_, hB⟩
      rw [hC.out, HBAD.out, HQ.out]
      exact ⟨rfl, lA, lc, by rw [natInts_length], hL2⟩
    | some r =>
      obtain ⟨rfl, -⟩ := hs
      go_wp2_with fail
      go_ret2
      refine ⟨.slice lA l.length lc, false, rfl, ?_, hB⟩
      rw [hC.out, HBAD.out, HQ.out]
      rfl
  | succ m ih =>
    rintro w lA mm lc l f many rfl hmany hf0 hf1 hl20 hlt h hl
    have IH := Lib.hid ih
    clear ih
    have hll := hl.len
    have hlm := hl.cap
    rw [natInts_length] at hll
    unfold maxLen at hlm
    have hwl := h.wlen
    have hwm := h.wcap
    unfold maxLen at hwm
    have hT1 := h.below (below_box (.cells #[.int .i64 t.cloth.threads, .slice cA t.cloth.crosses.length cc, .slice pA t.cloth.pins.length pc, .slice wA t.wishes.length wc, .slice uA t.unlike.length uc,
      .int .i64 t.s0, .int .i64 t.s1, .int .i64 t.s2, .int .i64 t.s3, .int .i64 t.s4, .int .i64 t.s5] 30))
    have hL1 := hl.below (below_box (.cells #[.int .i64 t.cloth.threads, .slice cA t.cloth.crosses.length cc, .slice pA t.cloth.pins.length pc, .slice wA t.wishes.length wc, .slice uA t.unlike.length uc,
      .int .i64 t.s0, .int .i64 t.s1, .int .i64 t.s2, .int .i64 t.s3, .int .i64 t.s4, .int .i64 t.s5] 30))
    have HC := Lib.hid (clashL_succ t m l f)
    have HLS : Hid (∀ k, k < t.wishes.length → ∀ i ∈ l ++ [k], i < t.wishes.length) := fun k hk i hi => by
      rcases List.mem_append.1 hi with hi | hi
      · exact hlt i hi
      · simp at hi; omega
    have hne : (((natInts l).length : Int) == (many : Int)) = false := by rw [natInts_length]; simp; omega
    have HMANY := Lib.hid hmany
    have hmany40 : many ≤ 40 := by omega
    obtain ⟨M, hM⟩ : ∃ M, M = m + 1 := ⟨_, rfl⟩
    rw [← hM] at HC ⊢
    have hmany20 : many ≤ 20 := by omega
    have HMM := Lib.hid hM
    clear hM hmany
    obtain ⟨i0, hi0, hz0, hz1, hz2⟩ := info_parts info_int
    by_cases hl0 : l.length = 0
    · obtain rfl := hf0 hl0
      have hL0 := natInts_length l
      have HL0 := Lib.hid hL0
      rw [hl0] at hL0
      generalize hLL : natInts l = L at *
      have HLL := Lib.hid hLL
      have hL20 : L.length ≤ 20 := by omega
      have hd0 : decide (0 < (L.length : Int)) = false := by simp [hL0]
      have hlp : ¬ (0 < L.length) := by omega
      clear hf1 hf0 hL0 hl0 hlt hLL
      obtain ⟨f, hf⟩ : ∃ f, f = 0 := ⟨_, rfl⟩
      rw [← hf] at HC ⊢
      have HF := Lib.hid hf
      clear hf
      go_enter Tryd.func30, Tryd.ntmps30
      go_wp2_with fail
      go_loopw [11] (fun i wr => ∃ k : Nat, f ≤ k ∧ i = .int .i64 k ∧ Below (w.heap.size + 1) (w.alloc (.cells #[.int .i64 t.cloth.threads, .slice cA t.cloth.crosses.length cc, .slice pA t.cloth.pins.length pc, .slice wA t.wishes.length wc, .slice uA t.unlike.length uc,
            .int .i64 t.s0, .int .i64 t.s1, .int .i64 t.s2, .int .i64 t.s3, .int .i64 t.s4, .int .i64 t.s5] 30)) wr ∧ clashL t M l f = (List.range' k (t.wishes.length - k)).findSome? fun i => clashL t m (l ++ [i]) (i + 1)) (fun i _ => t.wishes.length - (intOf i).toNat)
      case atStart => exact ⟨f, Nat.le_refl _, by rw [HF.out]; rfl, by simpa using Below.refl _ _, HC.out⟩
      case round =>
        obtain ⟨k, hkf, rfl, hbl, hE⟩ := hrel
        obtain ⟨hcell, _⟩ := bcell hbl
        have hszr : w.heap.size + 1 ≤ wr.heap.size := by have := hbl.size; simp at this; omega
        have hxr : w.heap.size < wr.heap.size := by omega
        have HE := Lib.hid hE
        clear hE
        by_cases hlt : k < t.wishes.length
        · have hTr : TaskRd wr cA cc pA pc wA wc uA uc t := hT1.below' (by simp) hbl
          have hLr : IntsRd wr lA lc L := hL1.below' (by simp) hbl
          have hkw := Lib.hid (show ∀ x ∈ [(k : Int)], I64 x by intro x hx; simp at hx; subst hx; unfold I64; omega)
          have HCS := Lib.hid (fun r (h : clashL t m (l ++ [k]) (k + 1) = r) => clashL_stop hlt h)
          have hlti : (k : Int) < (t.wishes.length : Int) := by omega
          go_wp2
          go_region_held3 (fun w' => Below wr.heap.size wr w' ∧ (∀ b o, b < wr.heap.size → w'.cell? ⟨b, o, none⟩ = wr.cell? ⟨b, o, none⟩)) (first | exact held_drew _ | assumption | exact held_alloc (by assumption) _)
            (first
              | (refine step_append_ints rfl (.tmp 48) (.tmp 49) 33 3 i0 rfl Tryd.underlying33 hi0 hz0 hz1 hz2 wr.heap.size (.slice (some ⟨_, 0, none⟩) 0 0) [] rfl ?ho lA lc L rfl (hLr.below ?hb) (by simp) (by simp; omega) ?hs ?_
                 case hb => exact And.left (by assumption)
                 case hs => exact Below.size (And.left (by assumption))
                 case ho => (first | exact own_lit0 _ (by simp) (by simp) | exact (own_lit0 _ (by simp) (by simp)).alloc _)
                 intro A' c' w1 hown hgrow hge hat hI
                 have hq := held_grown (wr := wr) (by assumption) hgrow hge)
              | (refine step_append_ints rfl (.tmp 50) (.tmp 52) 33 3 i0 rfl Tryd.underlying33 hi0 hz0 hz1 hz2 wr.heap.size (.slice A' ([] ++ L).length c') L rfl ?ho _ 1 [(k : Int)] rfl ?hI hLr.wf (by simp; omega) ?hs ?_
                 case hs => exact Below.size (And.left (by assumption))
                 case ho => (first | exact hown | exact hown.alloc _)
                 case hI =>
                   refine one_int _ (hkw.out _ (by simp)) ?hc ?hs
                   case hc => first | (simp; done) | (refine (hgrow.cell_far _ ?_ ?_).trans ?_ <;> first | (simp; done) | (simp; omega) | (simp [Value.ownBlock]; done))
                   case hs => first | (simp; done) | (refine Nat.lt_of_lt_of_le ?_ hgrow.size; simp; done) | (refine Nat.lt_of_lt_of_le ?_ hgrow.size; simp; omega)
                 intro A2 c2 w2 hown2 hgrow2 hge2 hat2 hI2
                 have hq2 := held_grown (wr := wr) (by assumption) hgrow2 hge2)
              | (go_at_call 30
                 with_reducible refine (IH.out _ _ _ _ (l ++ [k]) (k + 1) many ?hm ?hn ?hz ?hf ?h20 ?hall (hTr.below ?hb) ?hII).mono ?_
                 case hm => rw [← natInts_snoc, HLL.out]; simp
                 case hn => have := HMANY.out; simp; omega
                 case hz => simp
                 case hf => intro _; simp
                 case h20 => have := HMM.out; have := HMANY.out; simp; omega
                 case hall => exact HLS.out k hlt
                 case hb => exact And.left (by assumption)
                 case hII => rw [← natInts_snoc, HLL.out]; exact hI2
                 rintro e w3 ⟨v, b', rfl, hs3, hb3⟩
                 have hq3 := held_step (wr := wr) (by assumption) hb3))
          all_goals
            obtain ⟨hq4, hqc4⟩ := hq3
            have hend : Below (w.heap.size + 1) (w.alloc (.cells #[.int .i64 t.cloth.threads, .slice cA t.cloth.crosses.length cc, .slice pA t.cloth.pins.length pc, .slice wA t.wishes.length wc, .slice uA t.unlike.length uc,
            .int .i64 t.s0, .int .i64 t.s1, .int .i64 t.s2, .int .i64 t.s3, .int .i64 t.s4, .int .i64 t.s5] 30)) w3 := hbl.trans (hq4.mono hszr)
            clear hcell hqc4 hq4 hgrow hgrow2 hge hge2 hat hat2 hown hown2
            generalize hr : clashL t m (l ++ [k]) (k + 1) = r at hs3
            have HR := Lib.hid (HCS.out r hr)
            clear hr HCS
            cases r with
            | none =>
              obtain rfl := hs3
              go_wp2
              go_roundw
              case rel => exact ⟨k + 1, by omega, by go_num, hend, by rw [HE.out, HR.out]; rfl⟩
              case measure => simp [intOf]; omega
            | some x =>
              obtain ⟨rfl, hO⟩ := hs3
              have HO := Lib.hid hO
              clear hO
              go_wp2
              go_ret2
              refine ⟨v, true, rfl, ?_, (below_box _).trans (hend.mono (by omega))⟩
              rw [HE.out, HR.out]
              exact ⟨rfl, HO.out⟩
        · have hlti : ¬ (k : Int) < (t.wishes.length : Int) := by omega
          have hz : t.wishes.length - k = 0 := by omega
          have HZ := Lib.hid hz
          clear hz
          go_wp2
          go_ret2
          refine ⟨.slice none 0 0, false, rfl, ?_, (below_box _).trans (hbl.mono (by omega))⟩
          rw [HE.out, HZ.out]
          rfl
    · have hfv := hf1 (by omega)
      have hx10 := hlt _ (List.getElem_mem (show l.length - 1 < l.length by omega))
      have hL0 := natInts_length l
      have HL0 := Lib.hid hL0
      obtain ⟨b, off, rfl, hb, h0⟩ := hL1.rows.int (i := l.length - 1) (by rw [natInts_length]; omega)
      rw [natInts_get (by omega)] at h0
      generalize l[l.length - 1] = x at *
      rw [← hL0] at h0 hl0
      generalize hLL : natInts l = L at *
      have HLL := Lib.hid hLL
      have hL20 : L.length ≤ 20 := by omega
      have hLp : 0 < L.length := by omega
      have hd0 : decide (0 < (L.length : Int)) = true := by simp; omega
      have HFV := Lib.hid hfv
      clear hf1 hf0 hL0 hl0 hlt hLL hfv
      go_enter Tryd.func30, Tryd.ntmps30
      go_wp2_with fail
      go_loopw [11] (fun i wr => ∃ k : Nat, f ≤ k ∧ i = .int .i64 k ∧ Below (w.heap.size + 1) (w.alloc (.cells #[.int .i64 t.cloth.threads, .slice cA t.cloth.crosses.length cc, .slice pA t.cloth.pins.length pc, .slice wA t.wishes.length wc, .slice uA t.unlike.length uc,
            .int .i64 t.s0, .int .i64 t.s1, .int .i64 t.s2, .int .i64 t.s3, .int .i64 t.s4, .int .i64 t.s5] 30)) wr ∧ clashL t M l f = (List.range' k (t.wishes.length - k)).findSome? fun i => clashL t m (l ++ [i]) (i + 1)) (fun i _ => t.wishes.length - (intOf i).toNat)
      case atStart => exact ⟨f, Nat.le_refl _, by rw [HFV.out]; rfl, by simpa using Below.refl _ _, HC.out⟩
      case round =>
        obtain ⟨k, hkf, rfl, hbl, hE⟩ := hrel
        obtain ⟨hcell, _⟩ := bcell hbl
        have hszr : w.heap.size + 1 ≤ wr.heap.size := by have := hbl.size; simp at this; omega
        have hxr : w.heap.size < wr.heap.size := by omega
        have HE := Lib.hid hE
        clear hE
        by_cases hlt : k < t.wishes.length
        · have hTr : TaskRd wr cA cc pA pc wA wc uA uc t := hT1.below' (by simp) hbl
          have hLr : IntsRd wr (some ⟨b, off, none⟩) lc L := hL1.below' (by simp) hbl
          have hkw := Lib.hid (show ∀ x ∈ [(k : Int)], I64 x by intro x hx; simp at hx; subst hx; unfold I64; omega)
          have HCS := Lib.hid (fun r (h : clashL t m (l ++ [k]) (k + 1) = r) => clashL_stop hlt h)
          have hlti : (k : Int) < (t.wishes.length : Int) := by omega
          go_wp2
          go_region_held3 (fun w' => Below wr.heap.size wr w' ∧ (∀ b o, b < wr.heap.size → w'.cell? ⟨b, o, none⟩ = wr.cell? ⟨b, o, none⟩)) (first | exact held_drew _ | assumption | exact held_alloc (by assumption) _)
            (first
              | (refine step_append_ints rfl (.tmp 48) (.tmp 49) 33 3 i0 rfl Tryd.underlying33 hi0 hz0 hz1 hz2 wr.heap.size (.slice (some ⟨_, 0, none⟩) 0 0) [] rfl ?ho (some ⟨b, off, none⟩) lc L rfl (hLr.below ?hb) (by simp) (by simp; omega) ?hs ?_
                 case hb => exact And.left (by assumption)
                 case hs => exact Below.size (And.left (by assumption))
                 case ho => (first | exact own_lit0 _ (by simp) (by simp) | exact (own_lit0 _ (by simp) (by simp)).alloc _)
                 intro A' c' w1 hown hgrow hge hat hI
                 have hq := held_grown (wr := wr) (by assumption) hgrow hge)
              | (refine step_append_ints rfl (.tmp 50) (.tmp 52) 33 3 i0 rfl Tryd.underlying33 hi0 hz0 hz1 hz2 wr.heap.size (.slice A' ([] ++ L).length c') L rfl ?ho _ 1 [(k : Int)] rfl ?hI hLr.wf (by simp; omega) ?hs ?_
                 case hs => exact Below.size (And.left (by assumption))
                 case ho => (first | exact hown | exact hown.alloc _)
                 case hI =>
                   refine one_int _ (hkw.out _ (by simp)) ?hc ?hs
                   case hc => first | (simp; done) | (refine (hgrow.cell_far _ ?_ ?_).trans ?_ <;> first | (simp; done) | (simp; omega) | (simp [Value.ownBlock]; done))
                   case hs => first | (simp; done) | (refine Nat.lt_of_lt_of_le ?_ hgrow.size; simp; done) | (refine Nat.lt_of_lt_of_le ?_ hgrow.size; simp; omega)
                 intro A2 c2 w2 hown2 hgrow2 hge2 hat2 hI2
                 have hq2 := held_grown (wr := wr) (by assumption) hgrow2 hge2)
              | (go_at_call 30
                 with_reducible refine (IH.out _ _ _ _ (l ++ [k]) (k + 1) many ?hm ?hn ?hz ?hf ?h20 ?hall (hTr.below ?hb) ?hII).mono ?_
                 case hm => rw [← natInts_snoc, HLL.out]; simp
                 case hn => have := HMANY.out; simp; omega
                 case hz => simp
                 case hf => intro _; simp
                 case h20 => have := HMM.out; have := HMANY.out; simp; omega
                 case hall => exact HLS.out k hlt
                 case hb => exact And.left (by assumption)
                 case hII => rw [← natInts_snoc, HLL.out]; exact hI2
                 rintro e w3 ⟨v, b', rfl, hs3, hb3⟩
                 have hq3 := held_step (wr := wr) (by assumption) hb3))
          all_goals
            obtain ⟨hq4, hqc4⟩ := hq3
            have hend : Below (w.heap.size + 1) (w.alloc (.cells #[.int .i64 t.cloth.threads, .slice cA t.cloth.crosses.length cc, .slice pA t.cloth.pins.length pc, .slice wA t.wishes.length wc, .slice uA t.unlike.length uc,
            .int .i64 t.s0, .int .i64 t.s1, .int .i64 t.s2, .int .i64 t.s3, .int .i64 t.s4, .int .i64 t.s5] 30)) w3 := hbl.trans (hq4.mono hszr)
            clear hcell hqc4 hq4 hgrow hgrow2 hge hge2 hat hat2 hown hown2
            generalize hr : clashL t m (l ++ [k]) (k + 1) = r at hs3
            have HR := Lib.hid (HCS.out r hr)
            clear hr HCS
            cases r with
            | none =>
              obtain rfl := hs3
              go_wp2
              go_roundw
              case rel => exact ⟨k + 1, by omega, by go_num, hend, by rw [HE.out, HR.out]; rfl⟩
              case measure => simp [intOf]; omega
            | some x =>
              obtain ⟨rfl, hO⟩ := hs3
              have HO := Lib.hid hO
              clear hO
              go_wp2
              go_ret2
              refine ⟨v, true, rfl, ?_, (below_box _).trans (hend.mono (by omega))⟩
              rw [HE.out, HR.out]
              exact ⟨rfl, HO.out⟩
        · have hlti : ¬ (k : Int) < (t.wishes.length : Int) := by omega
          have hz : t.wishes.length - k = 0 := by omega
          have HZ := Lib.hid hz
          clear hz
          go_wp2
          go_ret2
          refine ⟨.slice none 0 0, false, rfl, ?_, (below_box _).trans (hbl.mono (by omega))⟩
          rw [HE.out, HZ.out]
          rfl
end Go.Proofs.YtegbbkmppphddaaDoor
