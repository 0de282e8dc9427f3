/- Of one text with its neighbours: RefCloth, RefEnds, RefCheck, Pure2, RefSolve, RefSolve2. -/
import Derived.Test.YtegbbkmppphddaaBase
import Derived.Lib.Hide
import Derived.Deep.LoopGhost
import Derived.OwnWalk
set_option linter.unusedVariables false
set_option linter.unusedSimpArgs false
/- The reference's checks of a cloth: line, numbers, ends, Check. -/
namespace Go.Proofs.Ytegbbkmppphddaa
open Go.RowKit

theorem info_int : (Try.prog.info? 3).map (fun i => (i.zero, i.size, i.bytes)) = some (some (.int .i64 0), 1, 8) := by kernel_rfl

def LinePost (w : World) (n : Nat) (e : Ending) (w' : World) : Prop :=
  ∃ A c, e = .returned (.slice A n c) ∧ w'.ownsRow w.heap.size 3 1 (.slice A n c) n (ints (iota n)) ∧ Below w.heap.size w w'

end Go.Proofs.Ytegbbkmppphddaa
/- The reference's 'ends' and 'Check' of a cloth. -/
namespace Go.Proofs.Ytegbbkmppphddaa
open Go.RowKit

def EndsPost (w : World) (c : Cloth) (e : Ending) (w' : World) : Prop :=
  ∃ v, e = .returned (.tuple #[v, .bool (endsB (iota c.threads.toNat) c.crosses).isSome]) ∧ Below w.heap.size w w'

theorem numbers_cross {c : Cloth} (h : numbersB c = true) {k : Nat} (hk : k < c.crosses.length) : 0 ≤ c.crosses[k].at_ ∧ c.crosses[k].at_ ≤ c.threads - 2 ∧ 0 ≤ c.crosses[k].work := by
  unfold numbersB at h
  simp only [Bool.and_eq_true, List.all_eq_true] at h
  have := h.1.2 _ (List.getElem_mem hk)
  simpa [crossOk, and_assoc] using this

end Go.Proofs.Ytegbbkmppphddaa
/- The reference's 'Check' of a task. -/
namespace Go.Proofs.Ytegbbkmppphddaa
open Go.RowKit

def goodE (b : Bool) : Int := if b then 0 else 2

end Go.Proofs.Ytegbbkmppphddaa
/- A valid task; what a search returns. -/
namespace Go.Proofs.Ytegbbkmppphddaa

theorem swapL_all {p : Int → Prop} {l : List Int} (h : ∀ x ∈ l, p x) {k : Nat} (hk : k + 1 < l.length) : ∀ x ∈ swapL l k, p x := by
  have h0 : ∀ j, j < l.length → p (l.getD j 0) := fun j hj => by
    rw [List.getD_eq_getElem?_getD, List.getElem?_eq_getElem hj]; exact h _ (List.getElem_mem hj)
  intro x hx
  rcases List.mem_or_eq_of_mem_set hx with hx | rfl
  · rcases List.mem_or_eq_of_mem_set hx with hx | rfl
    · exact h x hx
    · exact h0 _ hk
  · exact h0 _ (by omega)
theorem ends_over {p : Int → Prop} : ∀ (cs : List Cross) (l : List Int), (∀ x ∈ l, p x) → (∀ x ∈ cs, 0 ≤ x.at_ ∧ x.at_ + 1 < l.length) → (endsB l cs).isSome = true → ∀ x ∈ cs, p x.over ∧ p x.under
  | [], _, _, _, _ => fun _ h => by cases h
  | c :: r, l, hl, hr, he => by
    have hc := hr c (List.mem_cons_self ..)
    unfold endsB at he
    have h0 : ∀ j, j < l.length → p (l.getD j 0) := fun j hj => by
      rw [List.getD_eq_getElem?_getD, List.getElem?_eq_getElem hj]; exact hl _ (List.getElem_mem hj)
    have ha := h0 c.at_.toNat (by omega)
    have hb := h0 (c.at_.toNat + 1) (by omega)
    split at he
    · rename_i hm
      intro x hx
      rcases List.mem_cons.1 hx with rfl | hx
      · unfold meetB at hm
        simp only [Bool.or_eq_true, Bool.and_eq_true, decide_eq_true_eq] at hm
        rcases hm with ⟨h1, h2⟩ | ⟨h1, h2⟩
        · rw [← h1, ← h2]; exact ⟨ha, hb⟩
        · rw [← h1, ← h2]; exact ⟨hb, ha⟩
      · exact ends_over r (swapL l c.at_.toNat) (swapL_all hl (by omega)) (fun y hy => by rw [swapL_length]; exact hr y (List.mem_cons_of_mem _ hy)) he x hx
    · cases he

theorem clothB_ok {c : Cloth} (h : clothB c = 0) : c.threads ≤ 48 ∧ numbersB c = true ∧ (endsB (iota c.threads.toNat) c.crosses).isSome = true := by
  unfold clothB at h
  split at h
  · omega
  · split at h
    · omega
    · rename_i h1 h2
      split at h
      · rename_i h3
        exact ⟨by omega, by simpa using h2, h3⟩
      · omega
theorem numbers_two {c : Cloth} (h : numbersB c = true) : 2 ≤ c.threads := by
  unfold numbersB at h
  simp only [Bool.and_eq_true, decide_eq_true_eq] at h
  omega
theorem numbers_all {c : Cloth} (h : numbersB c = true) : ∀ x ∈ c.crosses, 0 ≤ x.at_ ∧ x.at_ ≤ c.threads - 2 ∧ 0 ≤ x.work := by
  unfold numbersB at h
  simp only [Bool.and_eq_true, List.all_eq_true] at h
  intro x hx
  have := h.1.2 x hx
  simpa [crossOk, and_assoc] using this
theorem cloth_over {c : Cloth} (h : clothB c = 0) : ∀ x ∈ c.crosses, 0 ≤ x.over ∧ x.over < c.threads := by
  obtain ⟨h1, h2, h3⟩ := clothB_ok h
  have h4 := numbers_two h2
  intro x hx
  refine (ends_over (p := fun v => 0 ≤ v ∧ v < c.threads) c.crosses (iota c.threads.toNat) ?_ ?_ h3 x hx).1
  · intro y hy
    simp only [iota, List.mem_map, List.mem_range] at hy
    obtain ⟨i, hi, rfl⟩ := hy
    omega
  · intro y hy
    have := numbers_all h2 y hy
    rw [iota_length]
    omega
theorem taskB_ok {t : Task} (h : taskB t = 0) : t.ok := by
  unfold taskB at h
  split at h
  · rename_i h0; exact absurd h h0
  · rename_i h0
    have h0 : clothB t.cloth = 0 := by simpa using h0
    split at h
    · omega
    · rename_i h1
      split at h
      · rename_i h2
        obtain ⟨-, hn, -⟩ := clothB_ok h0
        have h4 := numbers_two hn
        unfold goodB at h2
        simp only [Bool.and_eq_true, List.all_eq_true] at h2
        obtain ⟨⟨hw, hu⟩, hs⟩ := h2
        refine ⟨by omega, cloth_over h0, ?_, ?_, ?_⟩
        · intro x hx
          have := hw x hx
          simp only [wishOk, isB, Bool.and_eq_true, decide_eq_true_eq] at this
          exact ⟨this.1.1, this.1.2, this.2⟩
        · intro x hx
          have := hu x hx
          simp only [pairOk, isB, Bool.and_eq_true, decide_eq_true_eq, Bool.not_eq_true', decide_eq_false_iff_not] at this
          exact ⟨this.1.1.1, this.1.1.2, this.1.2.1, this.1.2.2, this.2⟩
        · intro c hc
          unfold supplyOk at hs
          rw [List.all_eq_true] at hs
          have := hs c (by simpa using hc)
          simpa using this
      · omega

theorem endsB_append (r : List Int) : ∀ (cs : List Cross) (l : List Int), (∀ x ∈ cs, 0 ≤ x.at_ ∧ x.at_ + 1 < l.length) → (endsB (l ++ r) cs).isSome = (endsB l cs).isSome
  | [], _, _ => rfl
  | c :: cs, l, h => by
    have hc := h c (List.mem_cons_self ..)
    have g0 : ∀ j, j < l.length → (l ++ r).getD j 0 = l.getD j 0 := fun j hj => by simp [List.getElem?_append_left hj]
    have hs : swapL (l ++ r) c.at_.toNat = swapL l c.at_.toNat ++ r := by
      unfold swapL
      rw [g0 _ (by omega), g0 _ (by omega), List.set_append_left _ _ (by omega), List.set_append_left _ _ (by simp; omega)]
    unfold endsB
    rw [g0 _ (by omega), g0 _ (by omega), hs]
    split
    · exact endsB_append r cs (swapL l c.at_.toNat) fun x hx => by rw [swapL_length]; exact h x (List.mem_cons_of_mem _ hx)
    · rfl
theorem endsB_48 {n : Nat} (hn : n ≤ 48) {cs : List Cross} (h : ∀ x ∈ cs, 0 ≤ x.at_ ∧ x.at_ + 1 < n) : (endsB (iota 48) cs).isSome = (endsB (iota n) cs).isSome := by
  obtain ⟨m, hm⟩ : ∃ m, 48 = n + m := ⟨48 - n, by omega⟩
  rw [hm, show iota (n + m) = iota n ++ (List.range m).map (fun (i : Nat) => ((n + i : Nat) : Int)) by unfold iota; rw [List.range_add, List.map_append, List.map_map]; rfl]
  exact endsB_append _ _ _ fun x hx => by rw [iota_length]; exact h x hx
theorem clothB_ends {c : Cloth} (h0 : ¬(48 < c.threads ∨ 20000 < c.crosses.length ∨ 6400 < c.pins.length)) (hn : numbersB c = true) : clothB c = if (endsB (iota 48) c.crosses).isSome then 0 else 6 := by
  have h2 := numbers_two hn
  have ha := numbers_all hn
  rw [endsB_48 (n := c.threads.toNat) (by omega) fun x hx => by have := ha x hx; omega]
  unfold clothB
  rw [if_neg h0, if_neg (by simp [hn])]

/-- What Solve returns: a list, and an error. -/
def resOf : Option (List Int) → List Int × Int
  | none => ([], 4)
  | some l => (l, 0)
def solveR (t : Task) : List Int × Int := if taskB t ≠ 0 then ([], taskB t) else resOf (solveB t t.cloth.threads.toNat [])
end Go.Proofs.Ytegbbkmppphddaa
/- The reference's 'solve': the search for the least arrangement. -/
namespace Go.Proofs.Ytegbbkmppphddaa
open Go.RowKit

/-- What a search returns: a list, and whether there is one. -/
def SolOut (w : World) (v : Value) (b : Bool) : Option (List Int) → Prop
  | none => v = .slice none 0 0 ∧ b = false
  | some l => b = true ∧ ∃ A c, v = .slice A l.length c ∧ IntsRd w A c l
theorem SolOut.below {w w' : World} {v : Value} {b : Bool} {r : Option (List Int)} (h : SolOut w v b r) (hb : Below w.heap.size w w') : SolOut w' v b r := by
  cases r with
  | none => exact h
  | some l => obtain ⟨h1, A, c, h2, h3⟩ := h; exact ⟨h1, A, c, h2, h3.below hb⟩
def SolPost (w : World) (r : Option (List Int)) (e : Ending) (w' : World) : Prop :=
  ∃ v b, e = .returned (.tuple #[v, .bool b]) ∧ SolOut w' v b r ∧ Below w.heap.size w w'

theorem info3 : (Try.prog.info? 3).map (fun i => (i.zero, i.size, i.bytes)) = some (some (.int .i64 0), 1, 8) := by kernel_rfl

end Go.Proofs.Ytegbbkmppphddaa
/- The reference's Solve. -/
namespace Go.Proofs.Ytegbbkmppphddaa
open Go.RowKit

def ListOut (w : World) (v : Value) (l : List Int) : Prop := ∃ A c, v = .slice A l.length c ∧ IntsRd w A c l
theorem ListOut.below {w w' : World} {v : Value} {l : List Int} (h : ListOut w v l) (hb : Below w.heap.size w w') : ListOut w' v l := by
  obtain ⟨A, c, h1, h2⟩ := h; exact ⟨A, c, h1, h2.below hb⟩
theorem IntsRd.nil_ (w : World) : IntsRd w none 0 [] := ⟨.inl rfl, by simp, fun _ => rfl, by unfold maxLen; omega, fun x h => by cases h⟩
theorem ListOut.nil_ (w : World) : ListOut w (.slice none 0 0) [] := ⟨none, 0, rfl, IntsRd.nil_ w⟩
/-- A list and an error are returned. -/
def ResPost (w : World) (r : List Int × Int) (e : Ending) (w' : World) : Prop :=
  ∃ v, e = .returned (.tuple #[v, .int .i64 r.2]) ∧ ListOut w' v r.1 ∧ Below w.heap.size w w'

end Go.Proofs.Ytegbbkmppphddaa
