/- The program's 'enough'. -/
import Derived.Test.YtegbbkmppphddaaProbMem
import Derived.Test.YtegbbkmppphddaaBase
set_option linter.unusedVariables false
set_option linter.unusedSimpArgs false
namespace Go.Proofs.Ytegbbkmppphddaa
open Go.RowKit

def psum (s : Nat) (f : Nat → Int) : Nat → Int
  | 0 => 0
  | c + 1 => psum s f c + if s.testBit c then f c else 0
theorem psum_six (s : Nat) (f : Nat → Int) : psum s f 6 = inSet s f := by simp [psum, inSet]
theorem within_take {s : Nat} {l : List Nat} {i : Nat} (hi : i < l.length) : within s (l.take (i + 1)) = within s (l.take i) + if (l[i] &&& (255 - s) == 0) = true then 1 else 0 := by
  unfold within
  rw [List.take_succ_eq_append_getElem hi, List.filter_append, List.length_append]
  congr 1
  by_cases h : (l[i] &&& (255 - s) == 0) = true <;> simp [h]
theorem within_len (s : Nat) (l : List Nat) : within s l ≤ l.length := List.length_filter_le ..
theorem psum_le {s : Nat} {p : Prob} (hw : p.wf) : ∀ c, 0 ≤ psum s (fun c => p.left.getD c 0) c ∧ psum s (fun c => p.left.getD c 0) c ≤ 100 * c
  | 0 => by simp [psum]
  | c + 1 => by
    have := psum_le (s := s) hw c
    have := hw.leftB c
    unfold psum
    split <;> omega
def EnPost (w : World) (v : Bool) (e : Ending) (w' : World) : Prop := e = .returned (.bool v) ∧ Below w.heap.size w w'

set_option maxRecDepth 100000 in
set_option maxHeartbeats 2000000 in
theorem enough_any {w : World} {b : Nat} {p : Prob} (h : ProbAt w b p) (hw : p.wf) {n : Nat} (hn : n < p.many) :
    Calls Try.prog 39 #[.pointer (some ⟨b, 0, none⟩), .int .i64 n] w (EnPost w (enoughB p n)) := by
  have hmany := h.many
  have hm16 := hw.many
  have i1 : (n : Int) ≤ (p.many : Int) := by omega
  have i2 : (p.many : Int) ≤ 16 := by omega
  have i3 : ¬ (16 = n) := by omega
  have i4 : (0 : Int) ≤ (n : Int) := by omega
  have hrl : (rest p n).length = p.many - n := by simp [rest, hw.may]; omega
  have HRG : Hid (∀ i (hi : i < (rest p n).length), (rest p n)[i] = p.may.getD (n + i) 0) := by
    intro i hi
    have : n + i < p.many := by omega
    simp [rest, hw.may, show n + i < 16 by omega]
  go_enter Try.func39, Try.ntmps39
  go_wp2
  go_loopw [5] (fun i wr => ∃ s : Nat, s ≤ 64 ∧ i = .int .u8 s ∧ Below w.heap.size w wr ∧ ∀ s', s' < s → ((within s' (rest p n) : Int) - inSet s' (fun c => p.left.getD c 0) ≤ 0)) (fun i _ => 64 - (intOf i).toNat)
  case atStart => exact ⟨0, by omega, rfl, Below.refl _ _, fun s' hs' => by omega⟩
  case round =>
    obtain ⟨s, hs, rfl, hbl, hall⟩ := hrel
    have hmr : wr.cell? ⟨b, 38, none⟩ = some (.int .i64 (p.many : Int)) := (hbl.cell (p := ⟨b, 38, none⟩) h.lt).trans hmany
    by_cases hs64 : s < 64
    · have HALL := Lib.hid hall
      clear hall
      have hm23 : (within s ((rest p n).take 0) : Int) = 0 := by simp [within]
      have hrow : ∀ k, n + k < p.many → ∀ w2, Below w.heap.size w w2 → w2.cell? ⟨b, n + k, none⟩ = some (.int .u8 (p.may.getD (n + k) 0 : Nat)) := fun k hk w2 hb2 => (hb2.cell (p := ⟨b, n + k, none⟩) h.lt).trans (h.may (by omega))
      have HROW := Lib.hid hrow
      clear hrow
      go_wp2
      go_region
      go_wp2
      go_loopw [6, 24] (fun v i w2 => ∃ k : Nat, k ≤ p.many - n ∧ i = .int .i64 k ∧ v = .int .i64 (within s ((rest p n).take k) : Nat) ∧ Below w.heap.size w w2) (fun _ i _ => p.many - n - (intOf i).toNat)
      case atStart => exact ⟨0, by omega, rfl, by simp [within], hbl.drew⟩
      case round =>
        rename_i w2
        obtain ⟨k, hk, rfl, rfl, hb2⟩ := hrel
        by_cases hlt : k < p.many - n
        · have hc := HROW.out k (by omega) _ hb2
          have HT := Lib.hid (within_take (s := s) (l := rest p n) (i := k) (by omega))
          have hg := HRG.out k (by omega)
          have hmB := hw.mayB (n + k)
          rw [hg] at HT
          clear hg
          have hwl : within s ((rest p n).take k) ≤ 16 := Nat.le_trans (within_len ..) (by simp; omega)
          generalize p.may.getD (n + k) 0 = m at *
          generalize within s ((rest p n).take k) = W at *
          have hbits := u8_andNot_nat m s (by omega) (by omega)
          generalize m &&& (255 - s) = q at *
          by_cases hq : q = 0
          · subst hq
            go_wp2
            go_roundw
            case rel => exact ⟨k + 1, by omega, by go_num, by rw [HT.out]; simp, hb2⟩
            case measure => simp [intOf]; omega
          · have hq' : ((q : Int) == 0) = false := by simp [hq]
            have hq2 : (q == 0) = false := by simp [hq]
            have HQ := Lib.hid hq2
            clear hq hq2
            go_wp2
            go_roundw
            case rel => exact ⟨k + 1, by omega, by go_num, by rw [HT.out, HQ.out]; simp, hb2⟩
            case measure => simp [intOf]; omega
        · obtain rfl : k = p.many - n := by omega
          rw [List.take_of_length_le (by omega)]
          have hwl : within s (rest p n) ≤ 16 := Nat.le_trans (within_len ..) (by omega)
          obtain ⟨W, hW⟩ : ∃ W, W = within s (rest p n) := ⟨_, rfl⟩
          rw [← hW] at hwl ⊢
          have HW := Lib.hid hW
          clear hW
          clear hk hlt
          go_wp2
          go_loopw [6, 35] (fun v i w4 => ∃ k : Nat, k ≤ 6 ∧ i = .int .i64 k ∧ v = .int .i64 ((W : Int) - psum s (fun c => p.left.getD c 0) k) ∧ Below w.heap.size w w4) (fun _ i _ => 6 - (intOf i).toNat)
          case atStart => exact ⟨0, by omega, rfl, by simp [psum], hb2⟩
          case round =>
            clear hb2
            rename_i w4
            obtain ⟨k, hk, rfl, rfl, hb4⟩ := hrel
            have hps := psum_le (s := s) hw k
            by_cases hk6 : k < 6
            · have hc := (hb4.cell (p := ⟨b, 32 + k, none⟩) h.lt).trans (h.left hk6)
              have hlb := hw.leftB k
              have hbit := u8_bit1 s k (by omega)
              have HP : Hid (psum s (fun c => p.left.getD c 0) (k + 1) = psum s (fun c => p.left.getD c 0) k + if s.testBit k then p.left.getD k 0 else 0) := rfl
              generalize psum s (fun c => p.left.getD c 0) k = S at *
              generalize p.left.getD k 0 = L at *
              rcases Bool.eq_false_or_eq_true (s.testBit k) with ht | ht
              · have HT := Lib.hid ht
                rw [ht] at hbit
                clear ht
                go_wp2
                go_roundw
                case rel => exact ⟨k + 1, by omega, by go_num, by rw [HP.out, HT.out, if_pos rfl]; first | (go_num; done) | (go_num; omega), hb4⟩
                case measure => simp [intOf]; omega
              · have HT := Lib.hid ht
                rw [ht] at hbit
                clear ht
                go_wp2
                go_roundw
                case rel => exact ⟨k + 1, by omega, by go_num, by rw [HP.out, HT.out]; simp, hb4⟩
                case measure => simp [intOf]; omega
            · obtain rfl : k = 6 := by omega
              rw [psum_six] at hps ⊢
              obtain ⟨I, hI⟩ : ∃ I, I = inSet s (fun c => p.left.getD c 0) := ⟨_, rfl⟩
              rw [← hI] at hps ⊢
              have HI := Lib.hid hI
              clear hI
              clear hk hk6
              by_cases hpos : I < (W : Int)
              · have hno : Hid (enoughB p n = false) := by
                  unfold Hid enoughB
                  rw [List.all_eq_false]
                  exact ⟨s, by simpa using hs64, by rw [← HW.out, ← HI.out]; simp; omega⟩
                have hd1 : decide ((0 : Int) < (W : Int) - I) = true := by simp; omega
                have hd2 : (0 : Int) < (W : Int) - I := by omega
                clear hpos
                go_wp2
                go_ret
                exact ⟨by rw [hno.out]; rfl, hb4⟩
              · have hd1 : decide ((0 : Int) < (W : Int) - I) = false := by simp; omega
                have hd2 : (W : Int) - I ≤ 0 := by omega
                have HPOS := Lib.hid hpos
                clear hpos
                go_wp2
                have hpos := HPOS.out
                go_roundw
                case rel =>
                  refine ⟨s + 1, by omega, by go_num, hb4, fun s' hs' => ?_⟩
                  by_cases e : s' = s
                  · subst e; rw [← HW.out, ← HI.out]; omega
                  · exact HALL.out s' (by omega)
                case measure => simp [intOf]; omega
    · obtain rfl : s = 64 := by omega
      have hyes : Hid (enoughB p n = true) := by
        unfold Hid enoughB
        rw [List.all_eq_true]
        intro s hs'
        simpa using hall s (by simpa using hs')
      go_wp2
      go_ret
      exact ⟨by rw [hyes.out]; rfl, hbl⟩
end Go.Proofs.Ytegbbkmppphddaa
