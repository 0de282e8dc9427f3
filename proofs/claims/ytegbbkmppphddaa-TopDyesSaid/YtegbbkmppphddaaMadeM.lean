/- The problem that 'made' makes is the task's. -/
import Derived.Test.YtegbbkmppphddaaMade
set_option linter.unusedVariables false
set_option linter.unusedSimpArgs false
namespace Go.Proofs.Ytegbbkmppphddaa

theorem getD_mem {α : Type} [Inhabited α] {l : List α} {i : Nat} (h : i < l.length) : l.getD i default ∈ l := by
  rw [List.getD_eq_getElem?_getD, List.getElem?_eq_getElem h]; exact List.getElem_mem h
theorem mem_getD {α : Type} [Inhabited α] {l : List α} {x : α} (h : x ∈ l) : ∃ i, i < l.length ∧ l.getD i default = x := by
  obtain ⟨i, hi, rfl⟩ := List.getElem_of_mem h
  exact ⟨i, hi, by rw [List.getD_eq_getElem?_getD, List.getElem?_eq_getElem hi]; rfl⟩
theorem picked_all (t : Task) : picked t (fun _ => true) = t.wishes := by
  unfold picked
  rw [List.filter_eq_self.2 (fun _ _ => rfl)]
  refine List.ext_getElem (by simp) fun i h1 h2 => ?_
  simp [h2]
theorem pickT_all (t : Task) : pickT t (fun _ => true) = t := by unfold pickT; rw [picked_all]
theorem pickT_ok {t : Task} (h : t.ok) (ch : Nat → Bool) : (pickT t ch).ok :=
  ⟨h.threads, h.over, fun w hw => by
    obtain ⟨i, hi, -, rfl⟩ := mem_picked.1 hw
    exact h.wish _ (getD_mem hi), h.pair, h.supply⟩
theorem wish_ov {t : Task} (h : t.ok) {i : Nat} (hi : i < t.wishes.length) : ov t (t.wishes.getD i default).cross < 16 := by
  have h1 := h.wish _ (getD_mem hi)
  have h2 := ov_lt h h1.1 h1.2.1
  have := h.threads
  omega
theorem pair_ov {t : Task} (h : t.ok) {i : Nat} (hi : i < t.unlike.length) : ov t (t.unlike.getD i default).1 < 16 ∧ ov t (t.unlike.getD i default).2 < 16 := by
  have h1 := h.pair _ (getD_mem hi)
  have h2 := ov_lt h h1.1 h1.2.1
  have h3 := ov_lt h h1.2.2.1 h1.2.2.2.1
  have := h.threads
  omega
theorem mayW_le (t : Task) (ch : Nat → Bool) (m0 : List Nat) : ∀ k j, (mayW t ch m0 k).getD j 0 ≤ m0.getD j 0
  | 0, _ => Nat.le_refl _
  | k + 1, j => by
    have ih := mayW_le t ch m0 k
    unfold mayW
    split
    · generalize ov t (t.wishes.getD k default).cross = o
      by_cases ho : o < (mayW t ch m0 k).length
      · rw [setD ho]
        split
        · rename_i e; subst e; exact Nat.le_trans Nat.and_le_left (ih _)
        · exact ih j
      · rw [List.set_eq_of_length_le (by omega)]; exact ih j
    · exact ih j
theorem bit63 : ∀ c, c < 6 → (63 : Nat).testBit c = true := by decide
theorem made_wf {t : Task} (h : t.ok) (ch : Nat → Bool) : (madeP t ch).wf := by
  have hth := h.threads
  refine ⟨?_, unlW_length t _, rfl, ?_, fun k => ?_, fun k => ?_, fun k => ?_⟩
  · show (mayW t ch (fillL _) _).length = 16
    rw [mayW_length, fillL_length (by omega)]
  · show t.cloth.threads.toNat ≤ 16
    omega
  · show (mayW t ch (fillL t.cloth.threads.toNat) t.wishes.length).getD k 0 < 64
    have h1 := mayW_le t ch (fillL t.cloth.threads.toNat) t.wishes.length k
    rw [fillL_get (by omega)] at h1
    split at h1 <;> omega
  · show (unlW t t.unlike.length).getD k 0 < 65536
    refine Nat.lt_pow_two_of_testBit (n := 16) _ fun c hc => ?_
    rw [Bool.eq_false_iff]
    intro hb
    obtain ⟨i, hi, hx⟩ := (unlW_bit (fun i hi => pair_ov h hi) _ (Nat.le_refl _) k c).1 hb
    have := pair_ov h hi
    omega
  · show 0 ≤ t.supply.getD k 0 ∧ t.supply.getD k 0 ≤ 100
    rcases Nat.lt_or_ge k 6 with hk | hk
    · rw [List.getD_eq_getElem?_getD]; exact h.supply k hk
    · rw [List.getD_eq_getElem?_getD, List.getElem?_eq_none (by simp [Task.supply]; omega)]; simp
theorem made_matches {t : Task} (h : t.ok) (ch : Nat → Bool) : Matches (madeP t ch) (pickT t ch) := by
  have hth := h.threads
  refine ⟨rfl, rfl, fun k hk c hc => ?_, fun j k hj hk => ?_, ?_⟩
  · show ((mayW t ch (fillL t.cloth.threads.toNat) t.wishes.length).getD k 0).testBit c = true ↔ _
    have hk' : k < t.cloth.threads.toNat := hk
    rw [mayW_bit (fillL_length (by omega)) (fun i hi => wish_ov h hi) _ (Nat.le_refl _), fillL_get (by omega), if_pos hk']
    constructor
    · rintro ⟨-, hall⟩ w hw ho
      obtain ⟨i, hi, hc', rfl⟩ := mem_picked.1 hw
      exact hall i hi hc' ho
    · intro hall
      exact ⟨bit63 c hc, fun i hi hc' ho => hall _ (mem_picked.2 ⟨i, hi, hc', rfl⟩) ho⟩
  · show ((unlW t t.unlike.length).getD j 0).testBit k = true ↔ _
    rw [unlW_bit (fun i hi => pair_ov h hi) _ (Nat.le_refl _)]
    constructor
    · rintro ⟨i, hi, hx⟩; exact ⟨_, getD_mem hi, hx⟩
    · rintro ⟨u, hu, hx⟩
      obtain ⟨i, hi, rfl⟩ := mem_getD (l := t.unlike) hu
      exact ⟨i, hi, hx⟩
  · show nevW t t.unlike.length = true ↔ _
    rw [nevW_iff]
    constructor
    · rintro ⟨i, hi, hx⟩; exact ⟨_, getD_mem hi, hx⟩
    · rintro ⟨u, hu, hx⟩
      obtain ⟨i, hi, rfl⟩ := mem_getD (l := t.unlike) hu
      exact ⟨i, hi, hx⟩
end Go.Proofs.Ytegbbkmppphddaa
