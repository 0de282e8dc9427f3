/- The reference's words: index, Check, crossing, crossings, Crossings. -/
import Derived.Test.YtegbbkmppphddaaRefA
import Derived.Test.YtegbbkmppphddaaClashA
set_option linter.unusedVariables false
set_option linter.unusedSimpArgs false
namespace Go.Proofs.Ytegbbkmppphddaa
open Go.RowKit

@[reducible] def letters : ByteArray := ⟨#[67, 84, 76, 82, 80, 99, 116, 108, 114]⟩
def idxB (l : List UInt8) (c : UInt8) : Int := match l.findIdx? (· == c) with | some k => (k : Int) | none => -1
theorem idxB_yes {l : List UInt8} {c : UInt8} {k : Nat} (hk : k < l.length) (h : l[k] = c) (hall : ∀ j (hj : j < l.length), j < k → l[j] ≠ c) : idxB l c = (k : Int) := by
  unfold idxB
  have : l.findIdx? (· == c) = some k := by
    rw [List.findIdx?_eq_some_iff_getElem]
    exact ⟨hk, by simp [h], fun j hj => by simpa using hall j (by omega) hj⟩
  rw [this]
theorem idxB_no {l : List UInt8} {c : UInt8} (hall : ∀ j (hj : j < l.length), l[j] ≠ c) : idxB l c = -1 := by
  unfold idxB
  have : l.findIdx? (· == c) = none := by
    rw [List.findIdx?_eq_none_iff]
    intro x hx
    obtain ⟨j, hj, rfl⟩ := List.getElem_of_mem hx
    simpa using hall j hj
  rw [this]
theorem ba_elem (s : ByteArray) (k : Nat) (h : k < s.size) : s[k] = s.data.toList[k]'(by simpa using h) := rfl

set_option maxHeartbeats 400000 in
theorem index_any {w : World} (s : ByteArray) (c : UInt8) (hs : s.size ≤ 1000) :
    Calls Try.prog 32 #[.string s, .int .u8 (c.toNat : Nat)] w fun e w' => e = .returned (.int .i64 (idxB s.data.toList c)) ∧ w = w' := by
  go_enter Try.func32, Try.ntmps32
  go_wp2
  go_loop [5] (fun i => ∃ k : Nat, k ≤ s.size ∧ i = .int .i64 k ∧ ∀ j (hj : j < s.data.toList.length), j < k → s.data.toList[j] ≠ c) (fun i => s.size - (intOf i).toNat)
  case atStart => exact ⟨0, Nat.zero_le _, rfl, fun j _ hj => by omega⟩
  case round =>
    obtain ⟨k, hk, rfl, hall⟩ := hrel
    have HALL := Lib.hid hall
    clear hall
    by_cases hlt : k < s.size
    · by_cases he : s[k] = c
      · have heb : ((s[k].toNat : Int) == (c.toNat : Int)) = true := by simp [he]
        have HV : Hid (idxB s.data.toList c = (k : Int)) := idxB_yes (by simpa using hlt) he (fun j hj hjk => HALL.out j hj hjk)
        clear he
        go_wp2
        go_ret
        exact ⟨by rw [HV.out]; rfl, rfl⟩
      · have heb : ((s[k].toNat : Int) == (c.toNat : Int)) = false := by
          simp only [beq_eq_false_iff_ne, ne_eq, Int.natCast_inj]
          exact fun h => he (UInt8.toNat_inj.1 h)
        have HE := Lib.hid he
        clear he
        go_wp2
        go_round
        case rel => exact ⟨k + 1, by omega, by go_num, fun j hj hjk => by
          by_cases e : j = k
          · subst e; exact HE.out
          · exact HALL.out j hj (by omega)⟩
        case measure => simp [intOf]; omega
    · obtain rfl : k = s.size := by omega
      have HV : Hid (idxB s.data.toList c = -1) := idxB_no fun j hj => HALL.out j hj (by simpa using hj)
      go_wp2
      go_ret
      exact ⟨by rw [HV.out]; rfl, rfl⟩

def isLetter (c : UInt8) : Bool := decide (0 ≤ idxB letters.data.toList c)
def wordB (s : ByteArray) : Int := if 16 < s.size then 3 else if s.data.toList.all isLetter then 0 else 6
set_option maxHeartbeats 400000 in
theorem refword_any {w : World} (s : ByteArray) (hs : s.size ≤ 9223372036854775807) :
    Calls Try.prog 14 #[.string s] w fun e w' => e = .returned (.int .i64 (wordB s)) ∧ w = w' := by
  by_cases h16 : 16 < s.size
  · have HV := Lib.hid (show wordB s = 3 by unfold wordB; rw [if_pos h16])
    have g : (16 : Int) < (s.size : Int) := by omega
    go_enter Try.func14, Try.ntmps14
    go_wp2
    go_ret
    exact ⟨by rw [HV.out]; rfl, rfl⟩
  · have g : (s.size : Int) ≤ 16 := by omega
    have HV := Lib.hid (show wordB s = if s.data.toList.all isLetter then 0 else 6 by unfold wordB; rw [if_neg h16])
    go_enter Try.func14, Try.ntmps14
    go_wp2
    go_loop [3] (fun i => ∃ k : Nat, k ≤ s.size ∧ i = .int .i64 k ∧ ∀ j (hj : j < s.data.toList.length), j < k → isLetter s.data.toList[j] = true) (fun i => s.size - (intOf i).toNat)
    case atStart => exact ⟨0, Nat.zero_le _, rfl, fun j _ hj => by omega⟩
    case round =>
      obtain ⟨k, hk, rfl, hall⟩ := hrel
      have HALL := Lib.hid hall
      clear hall
      by_cases hlt : k < s.size
      · go_wp2_with fail
        refine (index_any letters s[k] (by decide)).mono ?_
        rintro e w2 ⟨rfl, rfl⟩
        have HL : Hid (isLetter s[k] = decide (0 ≤ idxB letters.data.toList s[k])) := rfl
        generalize hix : idxB letters.data.toList s[k] = ix at *
        by_cases hneg : ix < 0
        · have HB : Hid (s.data.toList.all isLetter = false) := all_no (k := k) (by simpa using hlt) (by
            have := HL.out
            rw [ba_elem] at this
            rw [this]; simp; omega)
          clear hix
          go_wp2
          go_ret
          exact ⟨by rw [HV.out, HB.out]; rfl, rfl⟩
        · have HY := Lib.hid (show isLetter s[k] = true by rw [HL.out]; simp; omega)
          clear hix
          go_wp2
          go_round
          case rel => exact ⟨k + 1, by omega, by go_num, fun j hj hjk => by
            by_cases e : j = k
            · subst e; exact HY.out
            · exact HALL.out j hj (by omega)⟩
          case measure => simp [intOf]; omega
      · obtain rfl : k = s.size := by omega
        have HB : Hid (s.data.toList.all isLetter = true) := all_yes fun j hj => HALL.out j hj (by simpa using hj)
        go_wp2
        go_ret
        exact ⟨by rw [HV.out, HB.out]; rfl, rfl⟩

theorem ne_code {c d : UInt8} (h : ¬ c = d) {n : Int} (hn : (d.toNat : Int) = n) : ((c.toNat : Int) == n) = false := by
  subst hn
  simp only [beq_eq_false_iff_ne, ne_eq, Int.natCast_inj]
  exact fun e => h (UInt8.toNat_inj.1 e)
/-- The crossings of a letter. -/
def crossB (c : UInt8) : List Int :=
  if c = 67 then [2] else if c = 76 then [-1] else if c = 82 then [-3] else if c = 84 then [-1, -3] else if c = 99 then [-2] else if c = 108 then [1] else if c = 114 then [3] else if c = 116 then [1, 3] else []
def LPost (w : World) (l : List Int) (e : Ending) (w' : World) : Prop := ∃ v, e = .returned v ∧ ListOut w' v l ∧ Below w.heap.size w w'
theorem lit1_out (w : World) (x : Int) (hx : I64 x) (ty : TypeId) : ListOut (w.alloc (.cells #[.int .i64 x] ty)) (.slice (some ⟨w.heap.size, 0, none⟩) 1 1) [x] :=
  ⟨_, _, rfl, one_int x hx (by simp) (by simp)⟩
theorem lit2_out (w : World) (x y : Int) (hx : I64 x) (hy : I64 y) (ty : TypeId) : ListOut (w.alloc (.cells #[.int .i64 x, .int .i64 y] ty)) (.slice (some ⟨w.heap.size, 0, none⟩) 2 2) [x, y] := by
  refine ⟨_, _, rfl, ⟨.inr ⟨w.heap.size, 0, rfl, by simp, ?_⟩, by simp, (fun h => by cases h), by unfold maxLen; omega, ?_⟩⟩
  · intro i r hr j v hv
    have hi : i < 2 := by have := (List.getElem?_eq_some_iff.1 hr).1; simpa using this
    have hi' : i = 0 ∨ i = 1 := by omega
    rcases hi' with rfl | rfl
    all_goals
      obtain rfl : _ = r := by simpa [intCells] using hr
      have hj : j < 1 := by have := (List.getElem?_eq_some_iff.1 hv).1; simpa using this
      obtain rfl : j = 0 := by omega
      obtain rfl : _ = v := by simpa using hv
      simp
  · intro z hz
    simp at hz
    rcases hz with rfl | rfl <;> assumption
theorem crossB_len (c : UInt8) : (crossB c).length ≤ 2 ∧ ∀ x ∈ crossB c, I64 x := by
  unfold crossB
  unfold I64
  (repeat' split) <;> simp
def crossW (l : List UInt8) : List Int := l.flatMap crossB
theorem crossW_take {l : List UInt8} {k : Nat} (h : k < l.length) : crossW (l.take (k + 1)) = crossW (l.take k) ++ crossB l[k] := by
  unfold crossW
  rw [List.take_succ_eq_append_getElem h, List.flatMap_append]
  simp
theorem crossW_wf (l : List UInt8) : (∀ x ∈ crossW l, I64 x) ∧ (crossW l).length ≤ 2 * l.length := by
  induction l with
  | nil => simp [crossW]
  | cons c l ih =>
    have h := crossB_len c
    simp only [crossW, List.flatMap_cons, List.mem_append, List.length_append, List.length_cons] at *
    refine ⟨fun x hx => hx.elim (h.2 x) (ih.1 x), by omega⟩
/-- A list of the call's own. -/
def NPost (w : World) (l : List Int) (e : Ending) (w' : World) : Prop := ∃ A c, e = .returned (.slice A l.length c) ∧ IntsRd w' A c l ∧ (∀ b off, A = some ⟨b, off, none⟩ → w.heap.size ≤ b) ∧ Below w.heap.size w w'
end Go.Proofs.Ytegbbkmppphddaa
