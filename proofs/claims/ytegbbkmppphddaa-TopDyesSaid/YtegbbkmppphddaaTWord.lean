/- The program's words: IndexByte, Check, twists, crossings, Crossings. -/
import Derived.Test.YtegbbkmppphddaaRef03
import Derived.Lib.Walk
import Derived.Lib.Strings
import Derived.Lib.Bytealg
import Derived.BigCall
set_option linter.unusedVariables false
set_option linter.unusedSimpArgs false
namespace Go.Proofs.Ytegbbkmppphddaa
open Go.RowKit

theorem u8_all {p : UInt8 → Bool} (h : (List.range 256).all (fun n => p n.toUInt8) = true) (c : UInt8) : p c = true := by
  have := List.all_eq_true.1 h c.toNat (by simpa using c.toNat_lt)
  have e : c.toNat.toUInt8 = c := by simp
  rwa [e] at this
set_option maxHeartbeats 1000000 in
theorem slidx_any {w : World} (s : ByteArray) (c : Int) :
    Calls Try.prog 54 #[.string s, .int .u8 c] w fun e w' => e = .returned (.int .i64 (Lib.indexByte s.data.toList c.toNat.toUInt8)) ∧ w = w' := by
  go_enter Try.func54, Try.ntmps54
  go_wp2
  rw [run_callFunc_extern Try.func55 (by kernel_rfl) (by kernel_rfl) (by kernel_rfl) (e := Extern.BytealgIndexByte.indexByte) (by kernel_rfl), Lib.run_indexByteString]
  simp only [Result.andThen]
  rw [Oper.upon_value]
  go_wp2
  go_ret
  exact ⟨rfl, rfl⟩
set_option maxHeartbeats 1000000 in
theorem stridx_any {w : World} (s : ByteArray) (c : UInt8) :
    Calls Try.prog 48 #[.string s, .int .u8 (c.toNat : Nat)] w fun e w' => e = .returned (.int .i64 (Lib.indexByte s.data.toList c)) ∧ w = w' := by
  go_enter Try.func48, Try.ntmps48
  go_wp2_with fail
  refine (slidx_any s _).mono ?_
  rintro e w2 ⟨rfl, rfl⟩
  have e1 : ((c.toNat : Int).toNat).toUInt8 = c := by simp
  rw [e1]
  go_wp2
  go_ret
  exact ⟨rfl, rfl⟩
theorem has_letter (c : UInt8) : (decide (0 ≤ Lib.indexByte letters.data.toList c) == isLetter c) = true := u8_all (p := fun c => decide (0 ≤ Lib.indexByte letters.data.toList c) == isLetter c) (by kernel_rfl) c
theorem has_letter' (c : UInt8) : isLetter c = decide (0 ≤ Lib.indexByte letters.data.toList c) := by simpa using (by simpa using has_letter c : decide (0 ≤ Lib.indexByte letters.data.toList c) = isLetter c).symm

set_option maxHeartbeats 1000000 in
theorem word_any {w : World} (s : ByteArray) (hs : s.size ≤ 9223372036854775807) :
    Calls Try.prog 35 #[.string s] w fun e w' => e = .returned (.int .i64 (wordB s)) ∧ w = w' := by
  by_cases h16 : 16 < s.size
  · have HV := Lib.hid (show wordB s = 3 by unfold wordB; rw [if_pos h16])
    have g : (16 : Int) < (s.size : Int) := by omega
    go_enter Try.func35, Try.ntmps35
    go_wp2
    go_ret
    exact ⟨by rw [HV.out]; rfl, rfl⟩
  · have g : (s.size : Int) ≤ 16 := by omega
    have HV := Lib.hid (show wordB s = if s.data.toList.all isLetter then 0 else 6 by unfold wordB; rw [if_neg h16])
    go_enter Try.func35, Try.ntmps35
    go_wp2
    go_loop [9] (fun i => ∃ k : Nat, k ≤ s.size ∧ i = .int .i64 k ∧ ∀ j (hj : j < s.data.toList.length), j < k → isLetter s.data.toList[j] = true) (fun i => s.size - (intOf i).toNat)
    case atStart => exact ⟨0, Nat.zero_le _, rfl, fun j _ hj => by omega⟩
    case round =>
      obtain ⟨k, hk, rfl, hall⟩ := hrel
      have HALL := Lib.hid hall
      clear hall
      by_cases hlt : k < s.size
      · go_wp2_with fail
        refine (stridx_any letters s[k]).mono ?_
        rintro e w2 ⟨rfl, rfl⟩
        have HL : Hid (isLetter s[k] = decide (0 ≤ Lib.indexByte letters.data.toList s[k])) := has_letter' _
        generalize hix : Lib.indexByte letters.data.toList s[k] = ix at *
        by_cases hneg : ix < 0
        · have HB : Hid (s.data.toList.all isLetter = false) := all_no (k := k) (by simpa using hlt) (by
            have := HL.out
            rw [ba_elem] at this
            rw [this]; simp; omega)
          clear hix
          go_wp2
          go_ret
          exact ⟨by rw [HV.out, HB.out]; rfl, rfl⟩
        · have HY := Lib.hid (show isLetter s[k] = true by rw [HL.out]; simp; omega)
          clear hix
          go_wp2
          go_round
          case rel => exact ⟨k + 1, by omega, by go_num, fun j hj hjk => by
            by_cases e : j = k
            · subst e; exact HY.out
            · exact HALL.out j hj (by omega)⟩
          case measure => simp [intOf]; omega
      · obtain rfl : k = s.size := by omega
        have HB : Hid (s.data.toList.all isLetter = true) := all_yes fun j hj => HALL.out j hj (by simpa using hj)
        go_wp2
        go_ret
        exact ⟨by rw [HV.out, HB.out]; rfl, rfl⟩

/-- How often the left pair, the middle and the right pair are crossed. -/
def twA (c : UInt8) : Int := if c = 76 then -1 else if c = 84 then -1 else if c = 108 then 1 else if c = 116 then 1 else 0
def twB (c : UInt8) : Int := if c = 67 then 1 else if c = 99 then -1 else 0
def twD (c : UInt8) : Int := if c = 82 then -1 else if c = 84 then -1 else if c = 114 then 1 else if c = 116 then 1 else 0
def TwPost (c : UInt8) (w : World) (e : Ending) (w' : World) : Prop := e = .returned (.agg #[.int .i64 (twA c), .int .i64 (twB c), .int .i64 (twD c)]) ∧ Below w.heap.size w w'
theorem tw_ret {c : UInt8} {a b d : Int} {w w' : World} (ha : twA c = a) (hb : twB c = b) (hd : twD c = d) (h : Below w.heap.size w w') : TwPost c w (.returned (.agg #[.int .i64 a, .int .i64 b, .int .i64 d])) w' := ⟨by rw [ha, hb, hd], h⟩
set_option maxHeartbeats 4000000 in
theorem twists_any {w : World} (c : UInt8) : Calls Try.prog 49 #[.int .u8 (c.toNat : Nat)] w (TwPost c w) := by
  by_cases h0 : c = 67
  · subst h0
    go_enter Try.func49, Try.ntmps49
    go_wp2
    refine bodyPost_ret (v := .agg #[.int .i64 0, .int .i64 1, .int .i64 0]) (by simp [results, Try.results49, go_sem]) rfl (tw_ret (by decide) (by decide) (by decide) (below_box2 _ _ _))
  by_cases h1 : c = 99
  · subst h1
    go_enter Try.func49, Try.ntmps49
    go_wp2
    refine bodyPost_ret (v := .agg #[.int .i64 0, .int .i64 (-1), .int .i64 0]) (by simp [results, Try.results49, go_sem]) rfl (tw_ret (by decide) (by decide) (by decide) (below_box2 _ _ _))
  by_cases h2 : c = 76
  · subst h2
    go_enter Try.func49, Try.ntmps49
    go_wp2
    refine bodyPost_ret (v := .agg #[.int .i64 (-1), .int .i64 0, .int .i64 0]) (by simp [results, Try.results49, go_sem]) rfl (tw_ret (by decide) (by decide) (by decide) (below_box2 _ _ _))
  by_cases h3 : c = 82
  · subst h3
    go_enter Try.func49, Try.ntmps49
    go_wp2
    refine bodyPost_ret (v := .agg #[.int .i64 0, .int .i64 0, .int .i64 (-1)]) (by simp [results, Try.results49, go_sem]) rfl (tw_ret (by decide) (by decide) (by decide) (below_box2 _ _ _))
  by_cases h4 : c = 84
  · subst h4
    go_enter Try.func49, Try.ntmps49
    go_wp2
    refine bodyPost_ret (v := .agg #[.int .i64 (-1), .int .i64 0, .int .i64 (-1)]) (by simp [results, Try.results49, go_sem]) rfl (tw_ret (by decide) (by decide) (by decide) (below_box2 _ _ _))
  by_cases h5 : c = 108
  · subst h5
    go_enter Try.func49, Try.ntmps49
    go_wp2
    refine bodyPost_ret (v := .agg #[.int .i64 1, .int .i64 0, .int .i64 0]) (by simp [results, Try.results49, go_sem]) rfl (tw_ret (by decide) (by decide) (by decide) (below_box2 _ _ _))
  by_cases h6 : c = 114
  · subst h6
    go_enter Try.func49, Try.ntmps49
    go_wp2
    refine bodyPost_ret (v := .agg #[.int .i64 0, .int .i64 0, .int .i64 1]) (by simp [results, Try.results49, go_sem]) rfl (tw_ret (by decide) (by decide) (by decide) (below_box2 _ _ _))
  by_cases h7 : c = 116
  · subst h7
    go_enter Try.func49, Try.ntmps49
    go_wp2
    refine bodyPost_ret (v := .agg #[.int .i64 1, .int .i64 0, .int .i64 1]) (by simp [results, Try.results49, go_sem]) rfl (tw_ret (by decide) (by decide) (by decide) (below_box2 _ _ _))
  have e0 : ((c.toNat : Int) == 67) = false := ne_code h0 (by decide)
  have e1 : ((c.toNat : Int) == 99) = false := ne_code h1 (by decide)
  have e2 : ((c.toNat : Int) == 76) = false := ne_code h2 (by decide)
  have e3 : ((c.toNat : Int) == 82) = false := ne_code h3 (by decide)
  have e4 : ((c.toNat : Int) == 84) = false := ne_code h4 (by decide)
  have e5 : ((c.toNat : Int) == 108) = false := ne_code h5 (by decide)
  have e6 : ((c.toNat : Int) == 114) = false := ne_code h6 (by decide)
  have e7 : ((c.toNat : Int) == 116) = false := ne_code h7 (by decide)
  have HA := Lib.hid (show twA c = 0 by unfold twA; simp only [h0, h1, h2, h3, h4, h5, h6, h7, if_false])
  have HB := Lib.hid (show twB c = 0 by unfold twB; simp only [h0, h1, h2, h3, h4, h5, h6, h7, if_false])
  have HD := Lib.hid (show twD c = 0 by unfold twD; simp only [h0, h1, h2, h3, h4, h5, h6, h7, if_false])
  clear h0 h1 h2 h3 h4 h5 h6 h7
  go_enter Try.func49, Try.ntmps49
  go_wp2
  refine bodyPost_ret (v := .agg #[.int .i64 0, .int .i64 0, .int .i64 0]) (by simp [results, Try.results49, go_sem]) rfl (tw_ret HA.out HB.out HD.out (below_box2 _ _ _))
def eK (j n : Int) : List Int := if n = 0 then [] else [n * j]
def crK (a b d : Int) : Nat → List Int
  | 0 => []
  | 1 => eK 1 a
  | 2 => eK 1 a ++ eK 2 b
  | _ => eK 1 a ++ eK 2 b ++ eK 3 d
theorem crK_all (c : UInt8) : crK (twA c) (twB c) (twD c) 3 = crossB c := by
  have := u8_all (p := fun c => crK (twA c) (twB c) (twD c) 3 == crossB c) (by kernel_rfl) c
  simpa using this
theorem tw_rng (c : UInt8) : (twA c = 0 ∨ twA c = 1 ∨ twA c = -1) ∧ (twB c = 0 ∨ twB c = 1 ∨ twB c = -1) ∧ (twD c = 0 ∨ twD c = 1 ∨ twD c = -1) := by
  refine ⟨?_, ?_, ?_⟩
  · unfold twA; (repeat' split) <;> simp
  · unfold twB; (repeat' split) <;> simp
  · unfold twD; (repeat' split) <;> simp
theorem crK_len (a b d : Int) (m : Nat) : (crK a b d m).length ≤ 3 := by
  unfold crK eK
  split <;> simp <;> (repeat' split) <;> simp
theorem crK_wf {a b d : Int} (ha : a = 0 ∨ a = 1 ∨ a = -1) (hb : b = 0 ∨ b = 1 ∨ b = -1) (hd : d = 0 ∨ d = 1 ∨ d = -1) (m : Nat) : ∀ x ∈ crK a b d m, I64 x := by
  intro x hx
  have h1 : ∀ j n : Int, (n = 0 ∨ n = 1 ∨ n = -1) → 1 ≤ j → j ≤ 3 → ∀ x ∈ eK j n, I64 x := by
    intro j n hn h1 h2 x hx
    unfold eK at hx
    split at hx
    · cases hx
    · obtain rfl : x = n * j := by simpa using hx
      rcases hn with rfl | rfl | rfl <;> (unfold I64; omega)
  unfold crK at hx
  split at hx
  · cases hx
  · exact h1 1 a ha (by omega) (by omega) x hx
  · rcases List.mem_append.1 hx with hx | hx
    · exact h1 1 a ha (by omega) (by omega) x hx
    · exact h1 2 b hb (by omega) (by omega) x hx
  · rcases List.mem_append.1 hx with hx | hx
    · rcases List.mem_append.1 hx with hx | hx
      · exact h1 1 a ha (by omega) (by omega) x hx
      · exact h1 2 b hb (by omega) (by omega) x hx
    · exact h1 3 d hd (by omega) (by omega) x hx

set_option maxRecDepth 100000 in
set_option maxHeartbeats 4000000 in
theorem progcross_any {w : World} (s : ByteArray) (hs : s.size ≤ 16) : Calls Try.prog 36 #[.string s] w (NPost w (crossW s.data.toList)) := by
  obtain ⟨i0, hi0, hz0, hz1, hz2⟩ := info_parts info3
  go_enter Try.func36, Try.ntmps36
  go_wp2
  go_loopw [3, 9] (fun v i wr => ∃ (k : Nat) (A : Option Addr) (c : Nat), k ≤ s.size ∧ i = .int .i64 k ∧ v = .slice A (crossW (s.data.toList.take k)).length c ∧ wr.ownsRow w.heap.size 3 1 (.slice A (crossW (s.data.toList.take k)).length c) (crossW (s.data.toList.take k)).length (ints (crossW (s.data.toList.take k))) ∧ Below w.heap.size w wr) (fun _ i _ => s.size - (intOf i).toNat)
  case atStart => exact ⟨0, none, 0, Nat.zero_le _, rfl, rfl, ⟨by simp [ints], .inl ⟨rfl, rfl⟩⟩, Below.refl _ _⟩
  case round =>
    obtain ⟨k, A, c, hk, rfl, rfl, hown, hbl⟩ := hrel
    by_cases hlt : k < s.size
    · have hlt2 : k < s.data.toList.length := by simpa using hlt
      have HT := Lib.hid (crossW_take hlt2)
      obtain ⟨w1', w2'⟩ := crossW_wf (s.data.toList.take k)
      have hlen : (s.data.toList.take k).length ≤ k := List.length_take_le _ _
      have HW := Lib.hid w1'
      have hl32 : (crossW (s.data.toList.take k)).length ≤ 32 := by omega
      obtain ⟨ra, rb, rd⟩ := tw_rng s[k]
      have HC : Hid (crossW (s.data.toList.take (k + 1)) = crossW (s.data.toList.take k) ++ crK (twA s[k]) (twB s[k]) (twD s[k]) 3) := by rw [crK_all]; exact HT.out
      have HOWN := Lib.hid hown
      clear hown w1' w2' hlen HT
      generalize hD : crossW (s.data.toList.take k) = D at *
      clear hD
      go_wp2_with fail
      refine (twists_any s[k]).mono ?_
      rintro e w2 ⟨rfl, hb2⟩
      have hbl2 := hbl.trans (hb2.mono hbl.size)
      have HO2 := Lib.hid (owns_keep HOWN.out (w' := w2) fun g hg => hb2.block g (HOWN.out.lt g hg).2)
      clear hbl HOWN hb2
      generalize twA s[k] = a at *
      generalize twB s[k] = b at *
      generalize twD s[k] = d at *
      go_wp2_with fail
      obtain ⟨wo, hwo⟩ : ∃ wo : World, wo = w2 := ⟨_, rfl⟩
      have HB2 := Lib.hid hbl2
      clear hbl2
      go_loopw [3, 16] (fun v i wr => ∃ (m : Nat) (A : Option Addr) (c : Nat), m ≤ 3 ∧ i = .int .i64 m ∧ v = .slice A (D ++ crK a b d m).length c ∧ wr.ownsRow w.heap.size 3 1 (.slice A (D ++ crK a b d m).length c) (D ++ crK a b d m).length (ints (D ++ crK a b d m)) ∧ Below w.heap.size w wr) (fun _ i _ => 3 - (intOf i).toNat)
      case atStart => exact ⟨0, A, c, by omega, rfl, by simp [crK], by simpa [crK] using HO2.out, HB2.out⟩
      case round =>
        clear HO2 HB2 hwo
        obtain ⟨m, A', c', hm, rfl, rfl, hown, hbl⟩ := hrel
        by_cases hm3 : m < 3
        · have hLl : (D ++ crK a b d m).length ≤ 35 := by have := crK_len a b d m; simp; omega
          have hLw : ∀ x ∈ D ++ crK a b d m, I64 x := fun x hx => (List.mem_append.1 hx).elim (HW.out x) (crK_wf ra rb rd m x)
          have HLW := Lib.hid hLw
          clear hLw
          generalize hL : D ++ crK a b d m = L at *
          have HL := Lib.hid hL
          clear hL
          have HOW := Lib.hid hown
          clear hown
          have hs0 := hbl.size
          have hm' : m = 0 ∨ m = 1 ∨ m = 2 := by omega
          have j0 : ∀ (x0 x1 x2 : Value) (w : World), (Instr.index 101 (.agg #[x0, x1, x2]) (.int .i64 0)).run Try.prog w = .ok x0 w := fun _ _ _ _ => by kernel_rfl
          have j1 : ∀ (x0 x1 x2 : Value) (w : World), (Instr.index 101 (.agg #[x0, x1, x2]) (.int .i64 1)).run Try.prog w = .ok x1 w := fun _ _ _ _ => by kernel_rfl
          have j2 : ∀ (x0 x1 x2 : Value) (w : World), (Instr.index 101 (.agg #[x0, x1, x2]) (.int .i64 2)).run Try.prog w = .ok x2 w := fun _ _ _ _ => by kernel_rfl
          rcases hm' with rfl | rfl | rfl
          · rcases ra with rfl | rfl | rfl
            · have HN := Lib.hid (show D ++ crK 0 b d 1 = L by rw [← HL.out]; simp [crK, eK])
              go_wp2
              go_roundw
              case rel => exact ⟨1, A', c', by omega, by go_num, by rw [HN.out], by rw [HN.out]; exact HOW.out, hbl⟩
              case measure => simp [intOf]
            · have HN := Lib.hid (show D ++ crK 1 b d 1 = L ++ [1] by rw [← HL.out]; simp [crK, eK])
              go_wp2_with (refine wpList_append_ints rfl (.tmp 22) (.tmp 27) 47 3 i0 rfl Try.underlying47 hi0 hz0 hz1 hz2 w.heap.size (.slice A' L.length c') L rfl (HOW.out.alloc _) (some ⟨wr.heap.size, 0, none⟩) 1 [1] rfl (one_int 1 (by unfold I64; omega) (by simp) (by simp)) HLW.out (by simp; omega) (by simp; omega) ?_; intro A3 c3 w3 hown3 hg3 hge3 hat3 hI3)
              have hend : Below w.heap.size w w3 := (hbl.alloc hs0 _).grown hg3 (by simp; omega) hge3
              go_roundw
              case rel => exact ⟨1, A3, c3, by omega, by go_num, by rw [HN.out, List.length_append]; rfl, by rw [HN.out]; exact hown3, hend⟩
              case measure => simp [intOf]
            · have HN := Lib.hid (show D ++ crK (-1) b d 1 = L ++ [(-1)] by rw [← HL.out]; simp [crK, eK])
              go_wp2_with (refine wpList_append_ints rfl (.tmp 22) (.tmp 27) 47 3 i0 rfl Try.underlying47 hi0 hz0 hz1 hz2 w.heap.size (.slice A' L.length c') L rfl (HOW.out.alloc _) (some ⟨wr.heap.size, 0, none⟩) 1 [(-1)] rfl (one_int (-1) (by unfold I64; omega) (by simp) (by simp)) HLW.out (by simp; omega) (by simp; omega) ?_; intro A3 c3 w3 hown3 hg3 hge3 hat3 hI3)
              have hend : Below w.heap.size w w3 := (hbl.alloc hs0 _).grown hg3 (by simp; omega) hge3
              go_roundw
              case rel => exact ⟨1, A3, c3, by omega, by go_num, by rw [HN.out, List.length_append]; rfl, by rw [HN.out]; exact hown3, hend⟩
              case measure => simp [intOf]
          · rcases rb with rfl | rfl | rfl
            · have HN := Lib.hid (show D ++ crK a 0 d 2 = L by rw [← HL.out]; simp [crK, eK])
              go_wp2
              go_roundw
              case rel => exact ⟨2, A', c', by omega, by go_num, by rw [HN.out], by rw [HN.out]; exact HOW.out, hbl⟩
              case measure => simp [intOf]
            · have HN := Lib.hid (show D ++ crK a 1 d 2 = L ++ [2] by rw [← HL.out]; simp [crK, eK])
              go_wp2_with (refine wpList_append_ints rfl (.tmp 22) (.tmp 27) 47 3 i0 rfl Try.underlying47 hi0 hz0 hz1 hz2 w.heap.size (.slice A' L.length c') L rfl (HOW.out.alloc _) (some ⟨wr.heap.size, 0, none⟩) 1 [2] rfl (one_int 2 (by unfold I64; omega) (by simp) (by simp)) HLW.out (by simp; omega) (by simp; omega) ?_; intro A3 c3 w3 hown3 hg3 hge3 hat3 hI3)
              have hend : Below w.heap.size w w3 := (hbl.alloc hs0 _).grown hg3 (by simp; omega) hge3
              go_roundw
              case rel => exact ⟨2, A3, c3, by omega, by go_num, by rw [HN.out, List.length_append]; rfl, by rw [HN.out]; exact hown3, hend⟩
              case measure => simp [intOf]
            · have HN := Lib.hid (show D ++ crK a (-1) d 2 = L ++ [(-2)] by rw [← HL.out]; simp [crK, eK])
              go_wp2_with (refine wpList_append_ints rfl (.tmp 22) (.tmp 27) 47 3 i0 rfl Try.underlying47 hi0 hz0 hz1 hz2 w.heap.size (.slice A' L.length c') L rfl (HOW.out.alloc _) (some ⟨wr.heap.size, 0, none⟩) 1 [(-2)] rfl (one_int (-2) (by unfold I64; omega) (by simp) (by simp)) HLW.out (by simp; omega) (by simp; omega) ?_; intro A3 c3 w3 hown3 hg3 hge3 hat3 hI3)
              have hend : Below w.heap.size w w3 := (hbl.alloc hs0 _).grown hg3 (by simp; omega) hge3
              go_roundw
              case rel => exact ⟨2, A3, c3, by omega, by go_num, by rw [HN.out, List.length_append]; rfl, by rw [HN.out]; exact hown3, hend⟩
              case measure => simp [intOf]
          · rcases rd with rfl | rfl | rfl
            · have HN := Lib.hid (show D ++ crK a b 0 3 = L by rw [← HL.out]; simp [crK, eK])
              go_wp2
              go_roundw
              case rel => exact ⟨3, A', c', by omega, by go_num, by rw [HN.out], by rw [HN.out]; exact HOW.out, hbl⟩
              case measure => simp [intOf]
            · have HN := Lib.hid (show D ++ crK a b 1 3 = L ++ [3] by rw [← HL.out]; simp [crK, eK])
              go_wp2_with (refine wpList_append_ints rfl (.tmp 22) (.tmp 27) 47 3 i0 rfl Try.underlying47 hi0 hz0 hz1 hz2 w.heap.size (.slice A' L.length c') L rfl (HOW.out.alloc _) (some ⟨wr.heap.size, 0, none⟩) 1 [3] rfl (one_int 3 (by unfold I64; omega) (by simp) (by simp)) HLW.out (by simp; omega) (by simp; omega) ?_; intro A3 c3 w3 hown3 hg3 hge3 hat3 hI3)
              have hend : Below w.heap.size w w3 := (hbl.alloc hs0 _).grown hg3 (by simp; omega) hge3
              go_roundw
              case rel => exact ⟨3, A3, c3, by omega, by go_num, by rw [HN.out, List.length_append]; rfl, by rw [HN.out]; exact hown3, hend⟩
              case measure => simp [intOf]
            · have HN := Lib.hid (show D ++ crK a b (-1) 3 = L ++ [(-3)] by rw [← HL.out]; simp [crK, eK])
              go_wp2_with (refine wpList_append_ints rfl (.tmp 22) (.tmp 27) 47 3 i0 rfl Try.underlying47 hi0 hz0 hz1 hz2 w.heap.size (.slice A' L.length c') L rfl (HOW.out.alloc _) (some ⟨wr.heap.size, 0, none⟩) 1 [(-3)] rfl (one_int (-3) (by unfold I64; omega) (by simp) (by simp)) HLW.out (by simp; omega) (by simp; omega) ?_; intro A3 c3 w3 hown3 hg3 hge3 hat3 hI3)
              have hend : Below w.heap.size w w3 := (hbl.alloc hs0 _).grown hg3 (by simp; omega) hge3
              go_roundw
              case rel => exact ⟨3, A3, c3, by omega, by go_num, by rw [HN.out, List.length_append]; rfl, by rw [HN.out]; exact hown3, hend⟩
              case measure => simp [intOf]
        · obtain rfl : m = 3 := by omega
          go_wp2
          go_roundw
          case rel => exact ⟨k + 1, A', c', by omega, by go_num, by rw [HC.out], by rw [HC.out]; exact hown, hbl⟩
          case measure => simp [intOf]; omega
    · obtain rfl : k = s.size := by omega
      have hw := (crossW_wf (s.data.toList.take s.size)).1
      have HT : Hid (s.data.toList.take s.size = s.data.toList) := List.take_of_length_le (by simp)
      have HI := Lib.hid (intsRd_owns hown hw)
      have HAD := Lib.hid (owns_addr hown)
      clear hw hown
      go_wp2
      go_ret
      exact ⟨A, c, by rw [HT.out]; rfl, by have := HI.out; rw [HT.out] at this; exact this, HAD.out, hbl⟩
end Go.Proofs.Ytegbbkmppphddaa
