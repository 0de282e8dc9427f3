/- The reference's words: index, Check, crossing, crossings, Crossings. -/
import Derived.Test.YtegbbkmppphddaaDoorRefA
import Derived.Test.YtegbbkmppphddaaDoorClashA
set_option linter.unusedVariables false
set_option linter.unusedSimpArgs false
namespace Go.Proofs.YtegbbkmppphddaaDoor
open Go.RowKit

@[reducible] def letters : ByteArray := ⟨#[67, 84, 76, 82, 80, 99, 116, 108, 114]⟩
def idxB (l : List UInt8) (c : UInt8) : Int := match l.findIdx? (· == c) with | some k => (k : Int) | none => -1
theorem idxB_yes {l : List UInt8} {c : UInt8} {k : Nat} (hk : k < l.length) (h : l[k] = c) (hall : ∀ j (hj : j < l.length), j < k → l[j] ≠ c) : idxB l c = (k : Int) := by
  unfold idxB
  have : l.findIdx? (· == c) = some k := by
    rw [List.findIdx?_eq_some_iff_getElem]
    exact ⟨hk, by simp [h], fun j hj => by simpa using hall j (by omega) hj⟩
  rw [this]
theorem idxB_no {l : List UInt8} {c : UInt8} (hall : ∀ j (hj : j < l.length), l[j] ≠ c) : idxB l c = -1 := by
  unfold idxB
  have : l.findIdx? (· == c) = none := by
    rw [List.findIdx?_eq_none_iff]
    intro x hx
    obtain ⟨j, hj, rfl⟩ := List.getElem_of_mem hx
    simpa using hall j hj
  rw [this]
theorem ba_elem (s : ByteArray) (k : Nat) (h : k < s.size) : s[k] = s.data.toList[k]'(by simpa using h) := rfl

set_option maxHeartbeats 400000 in
theorem index_any {w : World} (s : ByteArray) (c : UInt8) (hs : s.size ≤ 1000) :
    Calls Tryd.prog 65 #[.string s, .int .u8 (c.toNat : Nat)] w fun e w' => e = .returned (.int .i64 (idxB s.data.toList c)) ∧ w = w' := by
  go_enter Tryd.func65, Tryd.ntmps65
  go_wp2
  go_loop [5] (fun i => ∃ k : Nat, k ≤ s.size ∧ i = .int .i64 k ∧ ∀ j (hj : j < s.data.toList.length), j < k → s.data.toList[j] ≠ c) (fun i => s.size - (intOf i).toNat)
  case atStart => exact ⟨0, Nat.zero_le _, rfl, fun j _ hj => by omega⟩
  case round =>
    obtain ⟨k, hk, rfl, hall⟩ := hrel
    have HALL := Lib.hid hall
    clear hall
    by_cases hlt : k < s.size
    · by_cases he : s[k] = c
      · have heb : ((s[k].toNat : Int) == (c.toNat : Int)) = true := by simp [he]
        have HV : Hid (idxB s.data.toList c = (k : Int)) := idxB_yes (by simpa using hlt) he (fun j hj hjk => HALL.out j hj hjk)
        clear he
        go_wp2
        go_ret
        exact ⟨by rw [HV.out]; rfl, rfl⟩
      · have heb : ((s[k].toNat : Int) == (c.toNat : Int)) = false := by
          simp only [beq_eq_false_iff_ne, ne_eq, Int.natCast_inj]
          exact fun h => he (UInt8.toNat_inj.1 h)
        have HE := Lib.hid he
        clear he
        go_wp2
        go_round
        case rel => exact ⟨k + 1, by omega, by go_num, fun j hj hjk => by
          by_cases e : j = k
          · subst e; exact HE.out
          · exact HALL.out j hj (by omega)⟩
        case measure => simp [intOf]; omega
    · obtain rfl : k = s.size := by omega
      have HV : Hid (idxB s.data.toList c = -1) := idxB_no fun j hj => HALL.out j hj (by simpa using hj)
      go_wp2
      go_ret
      exact ⟨by rw [HV.out]; rfl, rfl⟩

def isLetter (c : UInt8) : Bool := decide (0 ≤ idxB letters.data.toList c)
def wordB (s : ByteArray) : Int := if 16 < s.size then 3 else if s.data.toList.all isLetter then 0 else 6
set_option maxHeartbeats 400000 in
theorem refword_any {w : World} (s : ByteArray) (hs : s.size ≤ 9223372036854775807) :
    Calls Tryd.prog 63 #[.string s] w fun e w' => e = .returned (.int .i64 (wordB s)) ∧ w = w' := by
  by_cases h16 : 16 < s.size
  · have HV := Lib.hid (show wordB s = 3 by unfold wordB; rw [if_pos h16])
    have g : (16 : Int) < (s.size : Int) := by omega
    go_enter Tryd.func63, Tryd.ntmps63
    go_wp2
    go_ret
    exact ⟨by rw [HV.out]; rfl, rfl⟩
  · have g : (s.size : Int) ≤ 16 := by omega
    have HV := Lib.hid (show wordB s = if s.data.toList.all isLetter then 0 else 6 by unfold wordB; rw [if_neg h16])
    go_enter Tryd.func63, Tryd.ntmps63
    go_wp2
    go_loop [3] (fun i => ∃ k : Nat, k ≤ s.size ∧ i = .int .i64 k ∧ ∀ j (hj : j < s.data.toList.length), j < k → isLetter s.data.toList[j] = true) (fun i => s.size - (intOf i).toNat)
    case atStart => exact ⟨0, Nat.zero_le _, rfl, fun j _ hj => by omega⟩
    case round =>
      obtain ⟨k, hk, rfl, hall⟩ := hrel
      have HALL := Lib.hid hall
      clear hall
      by_cases hlt : k < s.size
      · go_wp2_with fail
        refine (index_any letters s[k] (by decide)).mono ?_
        rintro e w2 ⟨rfl, rfl⟩
        have HL : Hid (isLetter s[k] = decide (0 ≤ idxB letters.data.toList s[k])) := rfl
        generalize hix : idxB letters.data.toList s[k] = ix at *
        by_cases hneg : ix < 0
        · have HB : Hid (s.data.toList.all isLetter = false) := all_no (k := k) (by simpa using hlt) (by
            have := HL.out
            rw [ba_elem] at this
            rw [this]; simp; omega)
          clear hix
          go_wp2
          go_ret
          exact ⟨by rw [HV.out, HB.out]; rfl, rfl⟩
        · have HY := Lib.hid (show isLetter s[k] = true by rw [HL.out]; simp; omega)
          clear hix
          go_wp2
          go_round
          case rel => exact ⟨k + 1, by omega, by go_num, fun j hj hjk => by
            by_cases e : j = k
            · subst e; exact HY.out
            · exact HALL.out j hj (by omega)⟩
          case measure => simp [intOf]; omega
      · obtain rfl : k = s.size := by omega
        have HB : Hid (s.data.toList.all isLetter = true) := all_yes fun j hj => HALL.out j hj (by simpa using hj)
        go_wp2
        go_ret
        exact ⟨by rw [HV.out, HB.out]; rfl, rfl⟩

theorem ne_code {c d : UInt8} (h : ¬ c = d) {n : Int} (hn : (d.toNat : Int) = n) : ((c.toNat : Int) == n) = false := by
  subst hn
  simp only [beq_eq_false_iff_ne, ne_eq, Int.natCast_inj]
  exact fun e => h (UInt8.toNat_inj.1 e)
/-- The crossings of a letter. -/
def crossB (c : UInt8) : List Int :=
  if c = 67 then [2] else if c = 76 then [-1] else if c = 82 then [-3] else if c = 84 then [-1, -3] else if c = 99 then [-2] else if c = 108 then [1] else if c = 114 then [3] else if c = 116 then [1, 3] else []
def LPost (w : World) (l : List Int) (e : Ending) (w' : World) : Prop := ∃ v, e = .returned v ∧ ListOut w' v l ∧ Below w.heap.size w w'
theorem lit1_out (w : World) (x : Int) (hx : I64 x) (ty : TypeId) : ListOut (w.alloc (.cells #[.int .i64 x] ty)) (.slice (some ⟨w.heap.size, 0, none⟩) 1 1) [x] :=
  ⟨_, _, rfl, one_int x hx (by simp) (by simp)⟩
theorem lit2_out (w : World) (x y : Int) (hx : I64 x) (hy : I64 y) (ty : TypeId) : ListOut (w.alloc (.cells #[.int .i64 x, .int .i64 y] ty)) (.slice (some ⟨w.heap.size, 0, none⟩) 2 2) [x, y] := by
  refine ⟨_, _, rfl, ⟨.inr ⟨w.heap.size, 0, rfl, by simp, ?_⟩, by simp, (fun h => by cases h), by unfold maxLen; omega, ?_⟩⟩
  · intro i r hr j v hv
    have hi : i < 2 := by have := (List.getElem?_eq_some_iff.1 hr).1; simpa using this
    have hi' : i = 0 ∨ i = 1 := by omega
    rcases hi' with rfl | rfl
    all_goals
      obtain rfl : _ = r := by simpa [intCells] using hr
      have hj : j < 1 := by have := (List.getElem?_eq_some_iff.1 hv).1; simpa using this
      obtain rfl : j = 0 := by omega
      obtain rfl : _ = v := by simpa using hv
      simp
  · intro z hz
    simp at hz
    rcases hz with rfl | rfl <;> assumption
set_option maxHeartbeats 1000000 in
theorem crossing_any {w : World} (c : UInt8) : Calls Tryd.prog 66 #[.int .u8 (c.toNat : Nat)] w (LPost w (crossB c)) := by
  by_cases h0 : c = 67
  · subst h0
    go_enter Tryd.func66, Tryd.ntmps66
    go_wp2
    go_ret
    exact ⟨_, rfl, lit1_out _ _ (by unfold I64; omega) _, below_box _⟩
  by_cases h1 : c = 76
  · subst h1
    go_enter Tryd.func66, Tryd.ntmps66
    go_wp2
    go_ret
    exact ⟨_, rfl, lit1_out _ _ (by unfold I64; omega) _, below_box _⟩
  by_cases h2 : c = 82
  · subst h2
    go_enter Tryd.func66, Tryd.ntmps66
    go_wp2
    go_ret
    exact ⟨_, rfl, lit1_out _ _ (by unfold I64; omega) _, below_box _⟩
  by_cases h3 : c = 84
  · subst h3
    go_enter Tryd.func66, Tryd.ntmps66
    go_wp2
    go_ret
    exact ⟨_, rfl, lit2_out _ _ _ (by unfold I64; omega) (by unfold I64; omega) _, below_box _⟩
  by_cases h4 : c = 99
  · subst h4
    go_enter Tryd.func66, Tryd.ntmps66
    go_wp2
    go_ret
    exact ⟨_, rfl, lit1_out _ _ (by unfold I64; omega) _, below_box _⟩
  by_cases h5 : c = 108
  · subst h5
    go_enter Tryd.func66, Tryd.ntmps66
    go_wp2
    go_ret
    exact ⟨_, rfl, lit1_out _ _ (by unfold I64; omega) _, below_box _⟩
  by_cases h6 : c = 114
  · subst h6
    go_enter Tryd.func66, Tryd.ntmps66
    go_wp2
    go_ret
    exact ⟨_, rfl, lit1_out _ _ (by unfold I64; omega) _, below_box _⟩
  by_cases h7 : c = 116
  · subst h7
    go_enter Tryd.func66, Tryd.ntmps66
    go_wp2
    go_ret
    exact ⟨_, rfl, lit2_out _ _ _ (by unfold I64; omega) (by unfold I64; omega) _, below_box _⟩
  have e0 : ((c.toNat : Int) == 67) = false := ne_code h0 (by decide)
  have e1 : ((c.toNat : Int) == 76) = false := ne_code h1 (by decide)
  have e2 : ((c.toNat : Int) == 82) = false := ne_code h2 (by decide)
  have e3 : ((c.toNat : Int) == 84) = false := ne_code h3 (by decide)
  have e4 : ((c.toNat : Int) == 99) = false := ne_code h4 (by decide)
  have e5 : ((c.toNat : Int) == 108) = false := ne_code h5 (by decide)
  have e6 : ((c.toNat : Int) == 114) = false := ne_code h6 (by decide)
  have e7 : ((c.toNat : Int) == 116) = false := ne_code h7 (by decide)
  have HV := Lib.hid (show crossB c = [] by unfold crossB; simp only [h0, h1, h2, h3, h4, h5, h6, h7, if_false])
  clear h0 h1 h2 h3 h4 h5 h6 h7
  go_enter Tryd.func66, Tryd.ntmps66
  go_wp2
  go_ret
  exact ⟨_, rfl, by rw [HV.out]; exact ListOut.nil_ _, Below.refl _ _⟩

theorem crossB_len (c : UInt8) : (crossB c).length ≤ 2 ∧ ∀ x ∈ crossB c, I64 x := by
  unfold crossB
  unfold I64
  (repeat' split) <;> simp
def crossW (l : List UInt8) : List Int := l.flatMap crossB
theorem crossW_take {l : List UInt8} {k : Nat} (h : k < l.length) : crossW (l.take (k + 1)) = crossW (l.take k) ++ crossB l[k] := by
  unfold crossW
  rw [List.take_succ_eq_append_getElem h, List.flatMap_append]
  simp
theorem crossW_wf (l : List UInt8) : (∀ x ∈ crossW l, I64 x) ∧ (crossW l).length ≤ 2 * l.length := by
  induction l with
  | nil => simp [crossW]
  | cons c l ih =>
    have h := crossB_len c
    simp only [crossW, List.flatMap_cons, List.mem_append, List.length_append, List.length_cons] at *
    refine ⟨fun x hx => hx.elim (h.2 x) (ih.1 x), by omega⟩
/-- A list of the call's own. -/
def NPost (w : World) (l : List Int) (e : Ending) (w' : World) : Prop := ∃ A c, e = .returned (.slice A l.length c) ∧ IntsRd w' A c l ∧ (∀ b off, A = some ⟨b, off, none⟩ → w.heap.size ≤ b) ∧ Below w.heap.size w w'
set_option maxHeartbeats 1000000 in
theorem crossings_any' {w : World} (s : ByteArray) (hs : s.size ≤ 16) : Calls Tryd.prog 64 #[.string s] w (NPost w (crossW s.data.toList)) := by
  obtain ⟨i0, hi0, hz0, hz1, hz2⟩ := info_parts info3
  go_enter Tryd.func64, Tryd.ntmps64
  go_wp2
  go_loopw [3, 4] (fun v i wr => ∃ (k : Nat) (A : Option Addr) (c : Nat), k ≤ s.size ∧ i = .int .i64 k ∧ v = .slice A (crossW (s.data.toList.take k)).length c ∧ wr.ownsRow w.heap.size 3 1 (.slice A (crossW (s.data.toList.take k)).length c) (crossW (s.data.toList.take k)).length (ints (crossW (s.data.toList.take k))) ∧ Below w.heap.size w wr) (fun _ i _ => s.size - (intOf i).toNat)
  case atStart => exact ⟨0, none, 0, Nat.zero_le _, rfl, rfl, ⟨by simp [ints], .inl ⟨rfl, rfl⟩⟩, Below.refl _ _⟩
  case round =>
    obtain ⟨k, A, c, hk, rfl, rfl, hown, hbl⟩ := hrel
    by_cases hlt : k < s.size
    · have hlt2 : k < s.data.toList.length := by simpa using hlt
      have HT := Lib.hid (crossW_take hlt2)
      obtain ⟨w1', w2'⟩ := crossW_wf (s.data.toList.take k)
      have hlen : (s.data.toList.take k).length ≤ k := List.length_take_le _ _
      have hb1 := (crossB_len s[k]).1
      have HOWN := Lib.hid hown
      have HW := Lib.hid w1'
      have hl32 : (crossW (s.data.toList.take k)).length ≤ 32 := by omega
      clear hown w1' w2' hlen
      generalize hD : crossW (s.data.toList.take k) = D at *
      have HD := Lib.hid hD
      clear hD
      go_wp2_with fail
      refine (crossing_any s[k]).mono ?_
      rintro e w2 ⟨v, rfl, ⟨A2, c2, rfl, hI⟩, hb2⟩
      have hs2 := hb2.size
      have hs0 := hbl.size
      have hown2 := owns_keep HOWN.out (w' := w2) fun g hg => hb2.block g (HOWN.out.lt g hg).2
      have HO2 := Lib.hid hown2
      clear hown2
      go_wp2_with (refine wpList_append_ints rfl (.tmp 11) (.tmp 15) 33 3 i0 rfl Tryd.underlying33 hi0 hz0 hz1 hz2 w.heap.size (.slice A D.length c) D rfl HO2.out A2 c2 (crossB s[k]) rfl hI HW.out (by omega) (by omega) ?_; intro A3 c3 w3 hown3 hg3 hge3 hat3 hI3)
      have hend : Below w.heap.size w w3 := (hbl.trans (hb2.mono hs0)).grown hg3 (by omega) hge3
      have HN : Hid (crossW (s.data.toList.take (k + 1)) = D ++ crossB s[k]) := by have := HT.out; exact this
      go_roundw
      case rel => exact ⟨k + 1, A3, c3, by omega, by go_num, by rw [HN.out, List.length_append], by rw [HN.out]; exact hown3, hend⟩
      case measure => simp [intOf]; omega
    · obtain rfl : k = s.size := by omega
      have hw := (crossW_wf (s.data.toList.take s.size)).1
      have HT : Hid (s.data.toList.take s.size = s.data.toList) := List.take_of_length_le (by simp)
      have HI := Lib.hid (intsRd_owns hown hw)
      have HAD := Lib.hid (owns_addr hown)
      clear hw hown
      go_wp2
      go_ret
      exact ⟨A, c, by rw [HT.out]; rfl, by have := HI.out; rw [HT.out] at this; exact this, HAD.out, hbl⟩
set_option maxHeartbeats 400000 in
theorem refCrossings_any {w : World} (s : ByteArray) (h : wordB s = 0) :
    Calls Tryd.prog 60 #[.string s] w fun e w' => ∃ A c, e = .returned (.tuple #[.slice A (crossW s.data.toList).length c, .int .i64 0]) ∧ IntsRd w' A c (crossW s.data.toList) ∧ (∀ b off, A = some ⟨b, off, none⟩ → w.heap.size ≤ b) ∧ Below w.heap.size w w' := by
  have hs : s.size ≤ 16 := by
    unfold wordB at h
    split at h
    · omega
    · omega
  have H := Lib.hid h
  clear h
  go_enter Tryd.func60, Tryd.ntmps60
  go_wp2_with fail
  refine (refword_any s (by omega)).mono ?_
  rintro e w2 ⟨rfl, rfl⟩
  rw [H.out]
  go_wp2_with fail
  refine (crossings_any' s hs).mono ?_
  rintro e w2 ⟨A, c, rfl, hO, hA, hb2⟩
  go_wp2_with fail
  go_ret2
  exact ⟨A, c, rfl, hO, hA, hb2⟩
end Go.Proofs.YtegbbkmppphddaaDoor
