/- What an arrangement says of one wish, of one pair, and of the list that is worked out from the seen colours. -/
import Derived.Test.YtegbbkmppphddaaTBox
set_option linter.unusedVariables false
set_option linter.unusedSimpArgs false
namespace Go.Proofs.Ytegbbkmppphddaa
open Go.RowKit

theorem seenL_len (c : Cloth) (l : List Int) : (seenL c l).length = c.crosses.length := by simp [seenL]
theorem seenL_get (c : Cloth) (l : List Int) {q : Nat} (hq : q < c.crosses.length) : (seenL c l)[q]'(by rw [seenL_len]; exact hq) = l.getD c.crosses[q].over.toNat 0 := by simp [seenL]
theorem seen_eq {t : Task} (hk : t.ok) {l : List Int} (ha : Arr t l) {q : Nat} (hq : q < t.cloth.crosses.length) :
    seenB t l (q : Nat) = (seenL t.cloth l)[q]'(by rw [seenL_len]; exact hq) ∧ 0 ≤ seenB t l (q : Nat) ∧ seenB t l (q : Nat) < 6 := by
  have ho := hk.over _ (List.getElem_mem hq)
  have hl := ha.len
  have e : t.cloth.crosses.getD q default = t.cloth.crosses[q] := by simp [hq]
  have e1 : seenB t l (q : Nat) = l.getD t.cloth.crosses[q].over.toNat 0 := by
    unfold seenB
    simp only [Int.toNat_natCast, e]
    rw [if_neg (by omega)]
  refine ⟨by rw [seenL_get _ _ hq, e1], ?_⟩
  rw [e1]
  have hlt : t.cloth.crosses[q].over.toNat < l.length := by omega
  have := ha.cols _ (List.getElem_mem hlt)
  simpa [hlt] using this
theorem fit_wish {t : Task} (hk : t.ok) {l : List Int} (ha : Arr t l) {k : Nat} (h : k < t.wishes.length) :
    ∃ (q v : Nat) (hq : q < (seenL t.cloth l).length), t.wishes[k].cross = (q : Nat) ∧ (seenL t.cloth l)[q] = (v : Nat) ∧ v < 6 ∧ t.wishes[k].allowed.testBit v = true ∧ t.wishes[k].allowed < 64 := by
  obtain ⟨h0, h1, h2⟩ := hk.wish _ (List.getElem_mem h)
  obtain ⟨q, hq⟩ := Int.eq_ofNat_of_zero_le h0
  have hql : q < t.cloth.crosses.length := by omega
  obtain ⟨s1, s2, s3⟩ := seen_eq hk ha hql
  have hp := (poss_iff hk ha.cols).2 ha.poss
  unfold possibleB at hp
  simp only [Bool.and_eq_true] at hp
  have hw := List.all_eq_true.1 hp.1.2 _ (List.getElem_mem h)
  unfold wishB at hw
  rw [hq] at hw
  obtain ⟨v, hv⟩ := Int.eq_ofNat_of_zero_le s2
  refine ⟨q, v, by rw [seenL_len]; exact hql, hq, by rw [← s1, hv], by omega, ?_, h2⟩
  rw [hv] at hw
  simpa using hw
theorem fit_pair {t : Task} (hk : t.ok) {l : List Int} (ha : Arr t l) {k : Nat} (h : k < t.unlike.length) :
    ∃ (p q : Nat) (hp : p < (seenL t.cloth l).length) (hq : q < (seenL t.cloth l).length), t.unlike[k] = (((p : Nat) : Int), ((q : Nat) : Int)) ∧ (seenL t.cloth l)[p] ≠ (seenL t.cloth l)[q] := by
  obtain ⟨h0, h1, h2, h3, h4⟩ := hk.pair _ (List.getElem_mem h)
  obtain ⟨p, hp⟩ := Int.eq_ofNat_of_zero_le h0
  obtain ⟨q, hq⟩ := Int.eq_ofNat_of_zero_le h2
  have hpl : p < t.cloth.crosses.length := by omega
  have hql : q < t.cloth.crosses.length := by omega
  obtain ⟨s1, s2, s3⟩ := seen_eq hk ha hpl
  obtain ⟨r1, r2, r3⟩ := seen_eq hk ha hql
  have hps := (poss_iff hk ha.cols).2 ha.poss
  unfold possibleB at hps
  simp only [Bool.and_eq_true] at hps
  have hw := List.all_eq_true.1 hps.2 _ (List.getElem_mem h)
  unfold pairB at hw
  rw [hp, hq] at hw
  refine ⟨p, q, by rw [seenL_len]; exact hpl, by rw [seenL_len]; exact hql, Prod.ext_iff.2 ⟨hp, hq⟩, ?_⟩
  rw [← s1, ← r1]
  intro e
  simp [s2, e] at hw
  omega
theorem finL_len (c : Cloth) (l : List Int) (n : Nat) : (finL c l n).length = n := by simp [finL, lst_len]
theorem fin_hid {c : Cloth} {l : List Int} (hc : Cols l) {n k : Nat} (hl : l.length = n) (hk : k < n) (h : l[k]'(by omega) ≠ (finL c l n)[k]'(by rw [finL_len]; exact hk)) : (k : Int) ∈ hidK c n := by
  refine hidK_mem c hk ?_
  rw [shL_nil c k _ (Nat.le_refl _), List.take_length]
  cases hs : c.crosses.any (fun x => x.over == (k : Int)) with
  | false => rfl
  | true =>
    exfalso
    apply h
    have h0 := hc _ (List.getElem_mem (show k < l.length by omega))
    have : (lstL c l n c.crosses.length)[k]'(by rw [lst_len]; exact hk) = l[k]'(by omega) := by
      have e := lst_get c l (n := n) (m := c.crosses.length) hk
      rw [List.take_length, hs] at e
      have e2 : (lstL c l n c.crosses.length).getD k 0 = (lstL c l n c.crosses.length)[k]'(by rw [lst_len]; exact hk) := by simp [lst_len, hk]
      rw [← e2, e]
      have : k < l.length := by omega
      simp [this]
    unfold finL
    rw [List.getElem_map, this]
    omega
end Go.Proofs.Ytegbbkmppphddaa
