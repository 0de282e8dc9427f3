/- Of one text with its neighbours: Cloth, HeldIn, ClothIter, ClothRange, Eq2, ClothCheck. -/
import Derived.Test.YtegbbkmppphddaaBase
import Derived.Lib.Hide
import Derived.Deep.LoopGhost
import Derived.Deep.OwnRows
import Derived.Deep.MidRow
import Derived.BigRegion
import Derived.OrdersIn
import Derived.WalkKit
import Derived.RangeFuncCalls
import Derived.RangeFuncBound
import Derived.RangeFuncLeaves
import Derived.RangeFuncRecord
import Derived.OwnWalkIn
import Derived.TacticsInMore
import Derived.LoopNIn
import Derived.LoopIn
import Derived.RangeFuncMany
import Derived.Shelf.Abstract
import Derived.ChangeKeysEq
import Derived.Test.YtegbbkmppphddaaRefA
set_option linter.unusedVariables false
set_option linter.unusedSimpArgs false
/- The program's line of threads: in, begun, swap, crossings. -/
namespace Go.Proofs.Ytegbbkmppphddaa
open Go.RowKit

theorem in_any {w : World} (n a b : Int) : Calls Try.prog 41 #[.int .i64 n, .int .i64 a, .int .i64 b] w fun e w' => e = .returned (.bool (decide (a ≤ n) && decide (n ≤ b))) ∧ w = w' := by
  by_cases h0 : a ≤ n
  · by_cases h1 : n ≤ b
    all_goals
      go_enter Try.func41, Try.ntmps41
      go_wp2
      go_ret
      exact ⟨by simp [h0, h1], rfl⟩
  · go_enter Try.func41, Try.ntmps41
    go_wp2
    go_ret
    exact ⟨by simp; omega, rfl⟩

theorem line_desc : Try.prog.underlying 60 = some (.array 48 3) := by kernel_rfl
theorem line_size : (Try.prog.info? 60).map (·.size) = some 48 := by kernel_rfl

/-- Block b is a line of threads. -/
def LineAt (w : World) (b : Nat) (L : List Int) : Prop := w.heap[b]? = some (.cells (ints L).toArray 60 (0, 0)) ∧ L.length = 48
theorem LineAt.lt {w : World} {b : Nat} {L : List Int} (h : LineAt w b L) : b < w.heap.size := (Array.getElem?_eq_some_iff.1 h.1).1
theorem LineAt.cell {w : World} {b : Nat} {L : List Int} (h : LineAt w b L) {k : Nat} (hk : k < 48) : w.cell? ⟨b, k, none⟩ = some (.int .i64 (L.getD k 0)) := by
  have := h.2
  rw [cell_of_row w b k _ _ _ h.1]
  simp [ints, show k < L.length by omega]
theorem LineAt.frozen {w : World} {b : Nat} {L : List Int} (h : LineAt w b L) (k : Nat) : w.frozen? ⟨b, k, none⟩ = false := frozen_of_row w b k _ _ h.1
theorem LineAt.of_block {w w' : World} {b : Nat} {L : List Int} (h : LineAt w b L) (e : w'.heap[b]? = w.heap[b]?) : LineAt w' b L := ⟨e.trans h.1, h.2⟩
theorem LineAt.set {w : World} {b : Nat} {L : List Int} (h : LineAt w b L) (k : Nat) (x : Int) : LineAt (w.setCell ⟨b, k, none⟩ (.int .i64 x)) b (L.set k x) := by
  refine ⟨?_, by simp [h.2]⟩
  rw [heap_setCell_same w b k _ _ _ h.1, ints_set]
  simp
theorem LineAt.alloc {w : World} {b : Nat} {L : List Int} (h : LineAt w b L) (o : Obj) : LineAt (w.alloc o) b L := h.of_block (Below.heap_alloc w o b h.lt)
theorem LineAt.other {w : World} {b : Nat} {L : List Int} (h : LineAt w b L) {a : Addr} (ha : b ≠ a.block) (v : Value) : LineAt (w.setCell a v) b L := h.of_block (Below.heap_setCell w a v b ha)

theorem setCells_size : ∀ (vs : List Value) (w : World) (b o : Nat), (w.setCells b o vs).heap.size = w.heap.size
  | [], _, _, _ => rfl
  | v :: r, w, b, o => by
    show ((w.setCell ⟨b, o, none⟩ v).setCells b (o + 1) r).heap.size = _
    rw [setCells_size r]; simp [World.setCell]
theorem setCells_other : ∀ (vs : List Value) (w : World) (b o k : Nat), k ≠ b → (w.setCells b o vs).heap[k]? = w.heap[k]?
  | [], _, _, _, _, _ => rfl
  | v :: r, w, b, o, k, h => by
    show ((w.setCell ⟨b, o, none⟩ v).setCells b (o + 1) r).heap[k]? = _
    rw [setCells_other r _ _ _ _ h]; exact Below.heap_setCell w _ v k h
theorem setCells_whole {t : Nat} : ∀ (vs cs : List Value) (w : World) (b o : Nat), w.heap[b]? = some (.cells cs.toArray t (0, 0)) → o + vs.length ≤ cs.length →
    (w.setCells b o vs).heap[b]? = some (.cells (cs.take o ++ vs ++ cs.drop (o + vs.length)).toArray t (0, 0))
  | [], cs, w, b, o, h, _ => by simp [World.setCells, h]
  | v :: r, cs, w, b, o, h, hl => by
    simp only [List.length_cons] at hl
    show ((w.setCell ⟨b, o, none⟩ v).setCells b (o + 1) r).heap[b]? = _
    have h1 : (w.setCell ⟨b, o, none⟩ v).heap[b]? = some (.cells (cs.set o v).toArray t (0, 0)) := by
      rw [heap_setCell_same w b o _ _ _ h]; simp
    rw [setCells_whole r (cs.set o v) _ b (o + 1) h1 (by simp; omega)]
    have e1 : (cs.set o v).take (o + 1) = cs.take o ++ [v] := by
      rw [List.take_succ_eq_append_getElem (by simp; omega)]
      simp [List.take_set_of_le]
    have e2 : (cs.set o v).drop (o + 1 + r.length) = cs.drop (o + 1 + r.length) := by
      rw [List.drop_set]; simp; omega
    rw [e1, e2]
    simp [Nat.add_assoc, Nat.add_comm 1]
theorem LineAt.setCells {w : World} {b : Nat} {L M : List Int} (h : LineAt w b L) (hM : M.length = 48) : LineAt (w.setCells b 0 (ints M)) b M := by
  have hM' : (ints M).length = 48 := by simp [ints, hM]
  have hL' : (ints L).length = 48 := by simp [ints, h.2]
  refine ⟨?_, hM⟩
  rw [setCells_whole (ints M) (ints L) w b 0 h.1 (by omega), hM']
  simp [List.drop_of_length_le (show (ints L).length ≤ 48 by omega)]
theorem below_setCells {B : Nat} {a w : World} (h : Below B a w) {b : Nat} (hb : B ≤ b) (o : Nat) (vs : List Value) : Below B a (w.setCells b o vs) :=
  h.trans ⟨by induction vs generalizing o w with
    | nil => rfl
    | cons v r ih => exact ih (h.setCell (p := ⟨b, o, none⟩) hb v) (o + 1), by induction vs generalizing o w with
    | nil => rfl
    | cons v r ih => exact ih (h.setCell (p := ⟨b, o, none⟩) hb v) (o + 1), by induction vs generalizing o w with
    | nil => rfl
    | cons v r ih => exact ih (h.setCell (p := ⟨b, o, none⟩) hb v) (o + 1), by rw [setCells_size]; exact Nat.le_refl _, fun k hk => setCells_other _ _ _ _ _ (by omega)⟩

theorem begun_set (k : Nat) (hk : k < 48) : (iota k ++ List.replicate (48 - k) 0).set k (k : Int) = iota (k + 1) ++ List.replicate (48 - (k + 1)) 0 := by
  rw [iota_succ, List.append_assoc, List.set_append, if_neg (by rw [iota_length]; omega), iota_length, Nat.sub_self]
  obtain ⟨m, hm⟩ : ∃ m, 48 - k = m + 1 := ⟨47 - k, by omega⟩
  rw [hm, List.replicate_succ, show 48 - (k + 1) = m by omega]
  rfl

def BegunPost (w : World) (e : Ending) (w' : World) : Prop := e = .returned (.agg (ints (iota 48)).toArray) ∧ Below w.heap.size w w'
theorem line_zero (w : World) : LineAt (w.alloc (.cells #[.int .i64 0, .int .i64 0, .int .i64 0, .int .i64 0, .int .i64 0, .int .i64 0, .int .i64 0, .int .i64 0, .int .i64 0, .int .i64 0, .int .i64 0, .int .i64 0,
    .int .i64 0, .int .i64 0, .int .i64 0, .int .i64 0, .int .i64 0, .int .i64 0, .int .i64 0, .int .i64 0, .int .i64 0, .int .i64 0, .int .i64 0, .int .i64 0,
    .int .i64 0, .int .i64 0, .int .i64 0, .int .i64 0, .int .i64 0, .int .i64 0, .int .i64 0, .int .i64 0, .int .i64 0, .int .i64 0, .int .i64 0, .int .i64 0,
    .int .i64 0, .int .i64 0, .int .i64 0, .int .i64 0, .int .i64 0, .int .i64 0, .int .i64 0, .int .i64 0, .int .i64 0, .int .i64 0, .int .i64 0, .int .i64 0] 60)) w.heap.size (iota 0 ++ List.replicate (48 - 0) 0) :=
  ⟨heap_alloc_new w _, rfl⟩

set_option maxRecDepth 100000 in
set_option maxHeartbeats 1000000 in
theorem begun_any (w : World) : Calls Try.prog 16 #[] w (BegunPost w) := by
  go_enter Try.func16, Try.ntmps16
  go_wp2
  have hl0 := line_zero (w.alloc (.cells #[.int .i64 0, .int .i64 0, .int .i64 0, .int .i64 0, .int .i64 0, .int .i64 0, .int .i64 0, .int .i64 0, .int .i64 0, .int .i64 0, .int .i64 0, .int .i64 0,
    .int .i64 0, .int .i64 0, .int .i64 0, .int .i64 0, .int .i64 0, .int .i64 0, .int .i64 0, .int .i64 0, .int .i64 0, .int .i64 0, .int .i64 0, .int .i64 0,
    .int .i64 0, .int .i64 0, .int .i64 0, .int .i64 0, .int .i64 0, .int .i64 0, .int .i64 0, .int .i64 0, .int .i64 0, .int .i64 0, .int .i64 0, .int .i64 0,
    .int .i64 0, .int .i64 0, .int .i64 0, .int .i64 0, .int .i64 0, .int .i64 0, .int .i64 0, .int .i64 0, .int .i64 0, .int .i64 0, .int .i64 0, .int .i64 0] 60))
  have hr0 := (line_zero w).alloc (.cells #[.int .i64 0, .int .i64 0, .int .i64 0, .int .i64 0, .int .i64 0, .int .i64 0, .int .i64 0, .int .i64 0, .int .i64 0, .int .i64 0, .int .i64 0, .int .i64 0,
    .int .i64 0, .int .i64 0, .int .i64 0, .int .i64 0, .int .i64 0, .int .i64 0, .int .i64 0, .int .i64 0, .int .i64 0, .int .i64 0, .int .i64 0, .int .i64 0,
    .int .i64 0, .int .i64 0, .int .i64 0, .int .i64 0, .int .i64 0, .int .i64 0, .int .i64 0, .int .i64 0, .int .i64 0, .int .i64 0, .int .i64 0, .int .i64 0,
    .int .i64 0, .int .i64 0, .int .i64 0, .int .i64 0, .int .i64 0, .int .i64 0, .int .i64 0, .int .i64 0, .int .i64 0, .int .i64 0, .int .i64 0, .int .i64 0] 60)
  simp only [World.size_alloc] at hl0
  go_loopw [3] (fun i wr => ∃ k : Nat, k ≤ 48 ∧ i = .int .i64 k ∧ LineAt wr (w.heap.size + 1) (iota k ++ List.replicate (48 - k) 0) ∧ LineAt wr w.heap.size (iota 0 ++ List.replicate (48 - 0) 0) ∧ Below w.heap.size w wr) (fun i _ => 48 - (intOf i).toNat)
  case atStart => exact ⟨0, by omega, rfl, hl0, hr0, (below_box _).trans ((below_box _).mono (by simp))⟩
  case round =>
    clear hl0 hr0
    obtain ⟨k, hk, rfl, hl, hr, hb⟩ := hrel
    by_cases hlt : k < 48
    · have hc := hl.cell hlt
      have hf := hl.frozen k
      have hl2 := Lib.hid (hl.set k (k : Int))
      have hr2 := Lib.hid (hr.other (a := ⟨w.heap.size + 1, k, none⟩) (by simp) (.int .i64 (k : Int)))
      have hb2 := Lib.hid (hb.setCell (p := ⟨w.heap.size + 1, k, none⟩) (by simp) (.int .i64 (k : Int)))
      clear hl hr
      go_wp2
      go_roundw
      case rel => exact ⟨k + 1, by omega, by go_num, by rw [← begun_set k hlt]; exact hl2.out, hr2.out, hb2.out⟩
      case measure => simp [intOf]; omega
    · obtain rfl : k = 48 := by omega
      have e48 : iota 48 ++ List.replicate (48 - 48) 0 = iota 48 := by simp
      rw [e48] at hl
      have hsz : (Try.prog.info? 60).map (·.size) = some (ints (iota 48)).toArray.size := by rw [line_size]; simp [ints, iota_length]
      have h1 := Lib.hid hl.1
      have hth : wr.there w.heap.size 0 (ints (iota 48)).toArray.size := fun j hj => by
        have hj' : j < 48 := by simpa [ints, iota_length] using hj
        rw [Nat.zero_add]
        exact ⟨by rw [hr.cell hj']; rfl, hr.frozen j⟩
      have H2 := Lib.hid hth
      have H3 := Lib.hid hsz
      have H4 : Hid ((ints (iota 48)).toArray.all (·.oneCell') = true) := by
        unfold Hid
        rw [Array.all_eq_true_iff_forall_mem]
        intro u hu
        exact ints_one (iota 48) u (by simpa using hu)
      have hr2 := Lib.hid (hr.setCells (iota_length 48))
      have hb2 := Lib.hid (below_setCells hb (Nat.le_refl _) 0 (ints (iota 48)))
      clear hl hr hth hsz hb e48
      go_wp2_with (first | (refine wpList_load_row rfl 60 (.tmp 1) rfl (w.heap.size + 1) rfl 60 _ (0, 0) _ h1.out line_desc rfl H3.out ?_) | (refine wpList_store_mid rfl 60 (.tmp 0) (.tmp 10) rfl w.heap.size 0 _ rfl rfl H2.out H3.out H4.out ?_))
      refine bodyPost_ret (v := .agg (ints (iota 48)).toArray) ?_ rfl ⟨rfl, ?_⟩
      · exact results_cell_row rfl _ _ w.heap.size 60 _ (0, 0) _ rfl hr2.out.1 line_desc rfl H3.out
      · simpa using hb2.out

def SwapPost (w : World) (g : Nat) (L : List Int) (e : Ending) (w' : World) : Prop :=
  e = .returned (.tuple #[]) ∧ LineAt w' g L ∧ w.grownBy w' (some g)
theorem grown_two (w : World) (g k j : Nat) (u v : Value) : w.grownBy ((w.setCell ⟨g, k, none⟩ u).setCell ⟨g, j, none⟩ v).drew (some g) :=
  ⟨rfl, rfl, rfl, by simp [World.setCell], fun i _ hne => by
    show ((w.setCell ⟨g, k, none⟩ u).setCell ⟨g, j, none⟩ v).heap[i]? = _
    rw [Below.heap_setCell _ _ _ _ (by rintro rfl; exact hne rfl), Below.heap_setCell _ _ _ _ (by rintro rfl; exact hne rfl)]⟩

set_option maxRecDepth 100000 in
set_option maxHeartbeats 1000000 in
theorem swap_any (w : World) (g k : Nat) (L : List Int) (h : LineAt w g L) (hk : k + 1 < 48) :
    Calls Try.prog 19 #[.pointer (some ⟨g, 0, none⟩), .int .i64 k] w (SwapPost w g (swapL L k)) := by
  have hg := h.lt
  have c0 := h.cell (k := k) (by omega)
  have c1 := h.cell (k := k + 1) hk
  have f0 := h.frozen k
  have f1 := h.frozen (k + 1)
  have H := Lib.hid h
  clear h
  have HL : Hid (swapL L k = (L.set k (L.getD (k + 1) 0)).set (k + 1) (L.getD k 0)) := rfl
  generalize L.getD k 0 = a at *
  generalize L.getD (k + 1) 0 = b at *
  go_enter Try.func19, Try.ntmps19
  go_wp2
  go_region
  go_end0
  refine ⟨rfl, ?_, ?_⟩
  · rw [HL.out]
    exact ((H.out.set k b).set (k + 1) a)
  · exact grown_two w g k (k + 1) _ _

theorem crossings_any {w : World} {cA : Option Addr} {cc : Nat} {pA : Option Addr} {pc : Nat} {c : Cloth} {g : Option Addr} :
    Calls Try.prog 42 #[clothVal cA cc pA pc c, .pointer g] w fun e w' => e = .returned (.func (.func 50) #[] #[.pointer (some ⟨w.heap.size, 0, none⟩), .pointer (some ⟨w.heap.size + 1, 0, none⟩)]) ∧
      w' = (w.alloc (.cells #[.int .i64 c.threads, .slice cA c.crosses.length cc, .slice pA c.pins.length pc] 36)).alloc (.cells #[.pointer g] 85) := by
  go_enter Try.func42, Try.ntmps42
  go_wp2
  go_ret
  exact ⟨rfl, rfl⟩
end Go.Proofs.Ytegbbkmppphddaa
/- A region that draws its order, inside a fence, with loads beside calls: what yields its value in every world that meets a condition may be taken first. -/
namespace Go.Proofs.Ytegbbkmppphddaa
open Go
section
variable {F : Fence} {n : Nat} {P : Program} {ops : Array Oper} {Q : Exit → Act → World → Prop} {md : Region.Mode} {S : World → Prop}

/-- In every world that meets S the operation makes no call, and yields v. -/
def YieldsS (P : Program) (ops : Array Oper) (S : World → Prop) (o : Oper) (v : Value) (a : Act) : Prop :=
  (∀ w f, o.about P w a.eval = some f → False) ∧
  ((Region.wanted o (yielded ops a.tmps) = true ∧ ∀ w, S w → (execOp a.eval o).run P w = .ok (.value v) w) ∨ (Region.wanted o (yielded ops a.tmps) = false ∧ v = undef))

theorem YieldsS.opIn {i : Nat} {o : Oper} {v : Value} {a : Act} (hro : F.round = none) (hi : ops[i]? = some o) (hy : YieldsS P ops S o v a) {K : Act → World → Prop} {w : World} (hS : S w)
    (h : K (a.put o.dst v) w) : wpOpIn F n P ops Q i K a w := by
  unfold wpOpIn
  simp only [hi]
  have hab : ∀ f, o.about P w a.eval = some f → F.fn f := fun f hf => (hy.1 w f hf).elim
  rcases hy.2 with ⟨hw, hv⟩ | ⟨hw, rfl⟩
  · simp only [hw, if_true, Oper.wpIn, hro, Oper.semAt_none, hv w hS, Oper.uponIn]
    exact ⟨hab, h⟩
  · simp only [hw, Bool.false_eq_true, if_false]
    exact ⟨hab, h⟩

theorem YieldsS.keep {o : Oper} {v : Value} {a a' : Act} (hy : YieldsS P ops S o v a) (he : execOp a'.eval o = execOp a.eval o)
    (hw : Region.wanted o (yielded ops a'.tmps) = Region.wanted o (yielded ops a.tmps)) (hb : ∀ w, o.about P w a'.eval = o.about P w a.eval) : YieldsS P ops S o v a' := by
  refine ⟨fun w f hf => hy.1 w f ((hb w) ▸ hf), ?_⟩
  rw [he, hw]
  exact hy.2

/-- Whatever order is picked from here on; S holds behind every operation. -/
def anyS (F : Fence) (n : Nat) (P : Program) (md : Region.Mode) (ops : Array Oper) (Q : Exit → Act → World → Prop) (S : World → Prop) : Nat → Array Bool → Act → World → Prop
  | 0, listed, a, w => Region.ready md ops listed = [] ∧ Q .normal a w
  | fuel + 1, listed, a, w =>
    (Region.ready md ops listed = [] → Q .normal a w) ∧
    ∀ i ∈ Region.ready md ops listed, wpOpIn F n P ops Q i (fun a' w' => S w' ∧ anyS F n P md ops Q S fuel (listed.setIfInBounds i true) a' w') a w

theorem anyS_any : ∀ (fuel : Nat) (listed : Array Bool) (a : Act) (w : World), anyS F n P md ops Q S fuel listed a w → wpAnyIn F n P md ops Q fuel listed a w
  | 0, _, _, _, h => h
  | fuel + 1, _, _, _, h => ⟨h.1, fun i hi => wpOpIn_mono (fun a' w' h' => anyS_any fuel _ a' w' h'.2) (h.2 i hi)⟩

/-- Another operation, apart from this one. -/
theorem opIn_putS {j : Nat} {oi oj : Oper} {v : Value} (hro : F.round = none) (hj : ops[j]? = some oj) (hap : oi.apart ops oj = true)
    (hsi : ∀ cs b, oi.op ≠ .select cs b) (hsj : ∀ cs b, oj.op ≠ .select cs b)
    (hQ : ∀ c a w, Q (.panic c) (a.put oi.dst v) w → Q (.panic c) a w) {K : Act → World → Prop} {a : Act} {w : World}
    (hy : YieldsS P ops S oi v a) (h : wpOpIn F n P ops Q j K (a.put oi.dst v) w) :
    wpOpIn F n P ops Q j (fun a' w' => YieldsS P ops S oi v a' ∧ K (a'.put oi.dst v) w') a w := by
  obtain ⟨p1, p2, p3⟩ := Oper.apart_spec hap
  have kp : ∀ (b : Act), YieldsS P ops S oi v b → ∀ u, YieldsS P ops S oi v (b.put oj.dst u) := fun b hb u =>
    hb.keep (execOp_put oi hsi b oj.dst u p3) (wanted_put oi b oj.dst u p3) (fun x => about_put oi x b oj.dst u p3)
  unfold wpOpIn at *
  simp only [hj] at *
  rw [wanted_put oj a oi.dst v p1, about_put oj w a oi.dst v p1] at h
  by_cases hw : Region.wanted oj (yielded ops a.tmps) = true
  · simp only [hw, if_true] at h ⊢
    unfold Oper.wpIn at *
    rw [about_put oj w a oi.dst v p1] at h
    refine ⟨h.1, ?_⟩
    have h2 := h.2
    rw [hro, Oper.semAt_none, execOp_put oj hsj a oi.dst v p1] at h2
    rw [hro, Oper.semAt_none]
    generalize (execOp a.eval oj).run P w = r at *
    cases r with
    | ok x w' =>
      cases x <;> simp only [Oper.uponIn] at h2 ⊢
      case value u => exact ⟨kp a hy u, by rw [← Act.put_comm a v u p2]; exact h2⟩
      case skip => exact ⟨kp a hy _, by rw [← Act.put_comm a v undef p2]; exact h2⟩
      case defer d =>
        refine ⟨kp { a with defers := d :: a.defers } (hy.keep rfl rfl (fun _ => rfl)) _, ?_⟩
        rw [← Act.put_comm _ v undef p2, ← Act.put_defers]
        exact h2
      case enter f args =>
        refine ⟨h2.1, CallsIn.mono h2.2 fun e w'' he => ?_⟩
        cases e with
        | returned u => exact ⟨kp a hy u, by rw [← Act.put_comm a v u p2]; exact he⟩
        | panicked c => exact hQ _ _ _ he
        | outgrown => exact he
      case row row args => exact ⟨h2.1, RowsIn.mono h2.2 fun u w'' he => ⟨kp a hy u, by rw [← Act.put_comm a v u p2]; exact he⟩⟩
      case round l f tmps assign body =>
        refine ⟨h2.1, RoundIn.mono h2.2 fun e w'' he => ?_⟩
        cases e with
        | returned u => exact ⟨kp a hy u, by rw [← Act.put_comm a v u p2]; exact he⟩
        | panicked c => exact hQ _ _ _ he
        | outgrown => exact he
    | halt x w' =>
      cases x <;> simp only [Oper.uponIn] at h2 ⊢
      case panic u => exact hQ _ _ _ h2
  · simp only [hw] at h ⊢
    exact ⟨h.1, kp a hy _, by rw [← Act.put_comm a v undef p2]; exact h.2⟩

theorem anyS_first {i : Nat} {oi : Oper} {v : Value} (hro : F.round = none) (hi : ops[i]? = some oi) (hsel : ∀ (j : Nat) (o : Oper) cs b, ops[j]? = some o → o.op ≠ .select cs b)
    (hQ : ∀ c a w, Q (.panic c) (a.put oi.dst v) w → Q (.panic c) a w) :
    ∀ (fuel : Nat) (listed : Array Bool) (a : Act) (w : World),
      (∀ j oj, ops[j]? = some oj → j ≠ i → listed.getD j true = false → (∀ e ∈ oj.after, Region.binds md e = true → e.on ≠ i) → oi.apart ops oj = true) →
      i ∈ Region.ready md ops listed → YieldsS P ops S oi v a → S w →
      anyS F n P md ops Q S fuel (listed.setIfInBounds i true) (a.put oi.dst v) w → anyS F n P md ops Q S (fuel + 1) listed a w := by
  intro fuel
  induction fuel with
  | zero =>
    intro listed a w _ hr hy hS H
    refine ⟨fun h => (by rw [h] at hr; cases hr), fun j hj => ?_⟩
    by_cases e : j = i
    · subst e; exact hy.opIn hro hi hS ⟨hS, H⟩
    · have := ready_mono hj e
      rw [H.1] at this
      cases this
  | succ fuel ih =>
    intro listed a w hfree hr hy hS H
    refine ⟨fun h => (by rw [h] at hr; cases hr), fun j hj => ?_⟩
    by_cases e : j = i
    · subst e; exact hy.opIn hro hi hS ⟨hS, H⟩
    · obtain ⟨hun0, oj, hoj, hall⟩ := mem_ready.1 hj
      have hno : ∀ d ∈ oj.after, Region.binds md d = true → d.on ≠ i := fun d hd hb heq => by
        have q1 := hall d hd hb
        have q0 := (mem_ready.1 hr).1
        rw [heq] at q1
        rcases Nat.lt_or_ge i listed.size with h' | h'
        · simp [h'] at q0 q1; rw [q0] at q1; cases q1
        · simp [Array.getElem?_eq_none h'] at q1
      have hput := opIn_putS hro hoj (hfree j oj hoj e hun0 hno) (fun cs b => hsel i oi cs b hi) (fun cs b => hsel j oj cs b hoj) hQ hy (H.2 j (ready_mono hj e))
      refine wpOpIn_mono (fun a' w' hh => ⟨hh.2.1, ih (listed.setIfInBounds j true) a' w' ?_ (ready_mono hr (Ne.symm e)) hh.1 hh.2.1 ?_⟩) hput
      · intro k ok hk hki hun hnk
        refine hfree k ok hk hki ?_ hnk
        by_cases hjk : j = k
        · subst hjk; exact hun0
        · rw [getD_set_ne true hjk] at hun; exact hun
      · rw [Array.setIfInBounds_comm _ _ e]
        exact hh.2.2

theorem anyS_take {i : Nat} {oi : Oper} {v : Value} {fuel : Nat} {listed : Array Bool} {a : Act} {w : World} (hro : F.round = none) (hi : ops[i]? = some oi)
    (hs : Region.noSelect ops = true) (hf : Region.free md ops listed i = true) (hr : (Region.ready md ops listed).contains i = true)
    (hQ : ∀ c a w, Q (.panic c) (a.put oi.dst v) w → Q (.panic c) a w) (hy : YieldsS P ops S oi v a) (hS : S w)
    (h : anyS F n P md ops Q S fuel (listed.setIfInBounds i true) (a.put oi.dst v) w) : anyS F n P md ops Q S (fuel + 1) listed a w :=
  anyS_first hro hi (Region.noSelect_spec hs) hQ fuel listed a w (Region.free_spec hi hf) (by simpa using hr) hy hS h
/-- One operation alone may come up. -/
theorem anyS_one {i : Nat} {o : Oper} {fuel : Nat} {listed : Array Bool} {a : Act} {w : World} (hr : Region.ready md ops listed = [i]) (ho : ops[i]? = some o)
    (hw : Region.wanted o (yielded ops a.tmps) = true)
    (h : ∀ K : Act → World → Prop, (∀ a' w', S w' → anyS F n P md ops Q S fuel (listed.setIfInBounds i true) a' w' → K a' w') → o.wpIn F n P a w K Q) : anyS F n P md ops Q S (fuel + 1) listed a w := by
  refine ⟨fun h0 => (by rw [h0] at hr; cases hr), fun j hj => ?_⟩
  rw [hr] at hj
  obtain rfl : j = i := by simpa using hj
  unfold wpOpIn
  simp only [ho, hw, if_true]
  exact h _ (fun a' w' hS hh => ⟨hS, hh⟩)
theorem anyS_done {listed : Array Bool} {a : Act} {w : World} (hr : Region.ready md ops listed = []) (h : Q .normal a w) : ∀ fuel, anyS F n P md ops Q S fuel listed a w
  | 0 => ⟨hr, h⟩
  | _ + 1 => ⟨fun _ => h, by rw [hr]; simp⟩
theorem wpIn_region_S {id : Nat} {a : Act} {w : World} (hm : P.follows .mixedOrders = true) (h : anyS F n P .any ops Q S ops.size (Array.replicate ops.size false) a w.drew) :
    (Code.region id ops true).wpIn F n P Q a w := wpIn_region_any hm (anyS_any _ _ _ _ h)
end
end Go.Proofs.Ytegbbkmppphddaa
/- The iterator over the crossings of a cloth, walked inside a fence. -/
namespace Go.Proofs.Ytegbbkmppphddaa
open Go.RowKit
attribute [local go_sem] Oper.semAt_some

theorem grownBy_trans {a b c : World} {row : Option Nat} (h : a.grownBy b row) (k : b.grownBy c row) : a.grownBy c row :=
  ⟨k.os.trans h.os, k.tape.trans h.tape, k.output.trans h.output, Nat.le_trans h.size k.size, fun i hi hne => (k.block i (Nat.lt_of_lt_of_le hi h.size) hne).trans (h.block i hi hne)⟩
theorem grownBy_below {a b : World} (h : Below a.heap.size a b) (row : Option Nat) : a.grownBy b row := ⟨h.os, h.tape, h.output, h.size, fun i hi _ => h.block i hi⟩
theorem grownBy_drew {a b : World} {row : Option Nat} (h : a.grownBy b row) : a.grownBy b.drew row := ⟨h.os, h.tape, h.output, h.size, h.block⟩

def IterPost (ok : Bool) (J Jx : World → Prop) (e : Ending) (W' : World) : Prop := (∃ v, e = .returned v) ∧ ((ok = true ∧ J W') ∨ (ok = false ∧ Jx W'))

/-- What the reads of a round of the iterator need. -/
def IterS (X T2 g m : Nat) (wk ov un av bv : Int) (w : World) : Prop :=
  w.cell? ⟨X, 0, none⟩ = some (.int .i64 wk) ∧ w.cell? ⟨X, 1, none⟩ = some (.int .i64 m) ∧ w.cell? ⟨X, 2, none⟩ = some (.int .i64 ov) ∧ w.cell? ⟨X, 3, none⟩ = some (.int .i64 un) ∧
  w.cell? ⟨T2, 0, none⟩ = some (.pointer (some ⟨g, 0, none⟩)) ∧ w.cell? ⟨g, m, none⟩ = some (.int .i64 av) ∧ w.cell? ⟨g, m + 1, none⟩ = some (.int .i64 bv)

theorem IterS.keep {X T2 g m : Nat} {wk ov un av bv : Int} {w w' : World} (h : IterS X T2 g m wk ov un av bv w) (k0 : w'.heap[X]? = w.heap[X]?) (k1 : w'.heap[T2]? = w.heap[T2]?) (k2 : w'.heap[g]? = w.heap[g]?) :
    IterS X T2 g m wk ov un av bv w' := by
  obtain ⟨a, b, c, d, e, f, g'⟩ := h
  exact ⟨(World.cell?_of_block k0).trans a, (World.cell?_of_block k0).trans b, (World.cell?_of_block k0).trans c, (World.cell?_of_block k0).trans d,
    (World.cell?_of_block k1).trans e, (World.cell?_of_block k2).trans f, (World.cell?_of_block k2).trans g'⟩
theorem yieldT {b : Bool} {A B D : Prop} {l rb : Nat} {W W' : World} (hm : b = true) (h : (b = true ∧ A ∧ B ∧ Below W.heap.size W W') ∨ (b = false ∧ D)) :
    A ∧ (B ∧ Below W.heap.size W W') ∧ ∀ k, k < W.heap.size → k ≠ rb → k ≠ l → W'.heap[k]? = W.heap[k]? := by
  rcases h with h | h
  · exact ⟨h.2.1, h.2.2, fun k hk _ _ => h.2.2.2.block k hk⟩
  · rw [hm] at h; cases h.1
theorem yieldF {b : Bool} {A B D : Prop} (hm : b = false) (h : (b = true ∧ D) ∨ (b = false ∧ A ∧ B)) : A ∧ B := by
  rcases h with h | h
  · rw [hm] at h; cases h.1
  · exact h.2

set_option maxRecDepth 100000 in
set_option maxHeartbeats 2000000 in
theorem iter_any (n l T1 T2 g rb cc : Nat) (cA : Option Addr) (crosses : List Cross) (L0 : List Int) (W0 : World) (J Jx : World → Prop)
    (hT1 : T1 < W0.heap.size) (hT2 : T2 < W0.heap.size) (hg : g < W0.heap.size) (hl : l < W0.heap.size) (hrb : rb < W0.heap.size)
    (n1 : T1 ≠ g) (n2 : T2 ≠ g) (n3 : T1 ≠ rb) (n4 : T2 ≠ rb) (n5 : g ≠ rb) (n6 : T1 ≠ l) (n7 : T2 ≠ l) (n8 : g ≠ l)
    (h1 : W0.cell? ⟨T1, 1, none⟩ = some (.slice cA crosses.length cc)) (h2 : W0.cell? ⟨T2, 0, none⟩ = some (.pointer (some ⟨g, 0, none⟩)))
    (hlen : crosses.length ≤ cc) (hcap : cc ≤ 9223372036854775807)
    (hrows : ∀ W, W0.grownBy W (some g) → Rows W cA 4 (crosses.map Cross.cells))
    (hat : ∀ x ∈ crosses, 0 ≤ x.at_ ∧ x.at_ + 1 < 48)
    (hL : LineAt W0 g L0) (hJ : ∀ W W', J W → W.grownBy W' (some g) → J W') (h0 : J W0)
    (hY : ∀ W (x : Cross) (a b : Int), W0.grownBy W (some g) → J W → YieldAt Fence.wide (n - 1) Try.prog l #[.agg #[.int .i64 x.work, .int .i64 x.at_, .int .i64 x.over, .int .i64 x.under], .agg #[.int .i64 a, .int .i64 b]] W
      (fun e W' => (meetB a b x = true ∧ e = .returned (.bool true) ∧ J W' ∧ Below W.heap.size W W') ∨
        (meetB a b x = false ∧ e = .returned (.bool false) ∧ Jx W' ∧ ∀ k, k < W.heap.size → k ≠ rb → k ≠ l → W'.heap[k]? = W.heap[k]?))) :
    CallsIn Fence.wide n Try.prog 50 #[.func (.yield l) #[] #[], .pointer (some ⟨T1, 0, none⟩), .pointer (some ⟨T2, 0, none⟩)] W0 (IterPost (endsB L0 crosses).isSome J Jx) := by
  have hY' := Lib.hid hY
  have hJ' := Lib.hid hJ
  have hR' := Lib.hid hrows
  have hA' := Lib.hid hat
  clear hY hJ hrows hat
  refine callsIn_of_wp Try.func50 rfl trivial ?_ rfl
  simp only [Try.ntmps50, List.size_toArray, List.length_cons, List.length_nil, Nat.reduceAdd, Nat.reduceSub, Array.replicate_succ, Array.replicate_zero, List.push_toArray, List.append_toArray, List.nil_append, List.cons_append]
  gi_wp2
  gi_loopw [9] (fun i wr => ∃ (k : Nat) (L : List Int), k ≤ crosses.length ∧ i = .int .i64 k ∧ endsB L0 crosses = endsB L (crosses.drop k) ∧ LineAt wr g L ∧ J wr ∧ W0.grownBy wr (some g))
    (fun i _ => crosses.length - (intOf i).toNat)
  case atStart => exact ⟨0, L0, Nat.zero_le _, rfl, by simp, hL, h0, World.grownBy.refl _ _⟩
  case round =>
    obtain ⟨k, L, hk, rfl, hE, hLn, hJr, hgr⟩ := hrel
    by_cases hlt : k < crosses.length
    · obtain ⟨b, off, rfl, hb, k0, k1, k2, k3⟩ := (hR'.out wr hgr).cross hlt
      obtain ⟨q0, q1⟩ := hA'.out _ (List.getElem_mem hlt)
      have HD : Hid (crosses.drop k = crosses[k] :: crosses.drop (k + 1)) := List.drop_eq_getElem_cons hlt
      have HS : Hid (∀ x r, endsB L (x :: r) = if meetB (L.getD x.at_.toNat 0) (L.getD (x.at_.toNat + 1) 0) x then endsB (swapL L x.at_.toNat) r else none) := fun _ _ => rfl
      have HXW : Hid (crosses[k] = ⟨crosses[k].work, crosses[k].at_, crosses[k].over, crosses[k].under⟩) := rfl
      obtain ⟨m, hm⟩ := Int.eq_ofNat_of_zero_le q0
      have HK := Lib.hid hm
      rw [hm] at k1 q1
      have hm48 : m + 1 < 48 := by omega
      clear hm q0 q1
      have ha := hLn.cell (k := m) (by omega)
      have hb' := hLn.cell (k := m + 1) hm48
      have ht2 : wr.cell? ⟨T2, 0, none⟩ = some (.pointer (some ⟨g, 0, none⟩)) := (World.cell?_of_block (w := W0) (a := ⟨T2, 0, none⟩) (hgr.block T2 hT2 (by simpa using n2))).trans h2
      have hsz := hgr.size
      have hgw : g < wr.heap.size := by omega
      have hT2w : T2 < wr.heap.size := by omega
      have HE := Lib.hid hE
      have HLN := Lib.hid hLn
      clear hE hLn
      generalize hav : L.getD m 0 = av at *
      generalize hbv : L.getD (m + 1) 0 = bv at *
      have HAV := Lib.hid hav
      have HBV := Lib.hid hbv
      clear hav hbv
      generalize crosses[k] = x at *
      obtain ⟨wk, at_, ov, un⟩ := x
      have hS0 : IterS wr.heap.size T2 g m wk ov un av bv (wr.alloc (.cells #[.int .i64 wk, .int .i64 m, .int .i64 ov, .int .i64 un] 66)).drew := by
        have hB := below_box (w := wr) (.cells #[.int .i64 wk, .int .i64 m, .int .i64 ov, .int .i64 un] 66)
        exact ⟨by simp, by simp, by simp, by simp, (hB.cell (p := ⟨T2, 0, none⟩) hT2w).trans ht2, (hB.cell (p := ⟨g, m, none⟩) hgw).trans ha, (hB.cell (p := ⟨g, m + 1, none⟩) hgw).trans hb'⟩
      have hi1 : (m : Int) < 48 := by omega
      have hi2 : (m : Int) + 1 < 48 := by omega
      have hw2 : (0 : Int) ≤ (m : Int) + 1 := by omega
      have hw3 : ((m : Int) + 1).toNat = m + 1 := by omega
      have hw1 : IntKind.i64.wrap ((m : Int) + 1) = (m : Int) + 1 := IntWalk.i64_in _ (by omega)
      obtain ⟨fn, tmps, assign, body, hy, hRY⟩ := hY'.out (wr.alloc (.cells #[.int .i64 wk, .int .i64 m, .int .i64 ov, .int .i64 un] 66)).drew ⟨wk, m, ov, un⟩ av bv
        (grownBy_drew (grownBy_trans hgr (grownBy_below (below_box _) _))) (hJ'.out _ _ hJr (grownBy_drew (grownBy_below (below_box _) _)))
      simp only [] at hy
      rcases Bool.eq_false_or_eq_true (meetB av bv ⟨wk, m, ov, un⟩) with hmt | hmf
      · gi_wp2
        refine wpIn_region_S (S := (IterS wr.heap.size T2 g m wk ov un av bv)) (by kernel_rfl) ?_
        refine anyS_take (i := 0) (oi := { dst := some 13, op := Op.move (Operand.tmp 0), type := 104, pos := "cloth.go:68", after := #[], guard := none }) (v := ?_) rfl rfl (by kernel_rfl) (by kernel_rfl) (by kernel_rfl) (fun _ _ _ h => h) ⟨(fun w f hf => by simp [Oper.about] at hf), .inl ⟨by rfl, ?_⟩⟩ hS0 ?_
        rotate_left
        · intro w hSw; unfold IterS at hSw; (try dsimp only at hSw); go_simp; try (with_reducible rfl)
        try simp only [Act.put, List.setIfInBounds_toArray, List.set_cons_zero, List.set_cons_succ]
        refine anyS_take (i := 1) (oi := { dst := some 14, op := Op.load 66 (Operand.tmp 5), type := 66, pos := "cloth.go:68", after := #[], guard := none }) (v := ?_) rfl rfl (by kernel_rfl) (by kernel_rfl) (by kernel_rfl) (fun _ _ _ h => h) ⟨(fun w f hf => by simp [Oper.about] at hf), .inl ⟨by rfl, ?_⟩⟩ hS0 ?_
        rotate_left
        · intro w hSw; unfold IterS at hSw; (try dsimp only at hSw); go_simp; try (with_reducible rfl)
        try simp only [Act.put, List.setIfInBounds_toArray, List.set_cons_zero, List.set_cons_succ]
        refine anyS_take (i := 2) (oi := { dst := some 15, op := Op.load 85 (Operand.tmp 2), type := 85, pos := "cloth.go:68", after := #[], guard := none }) (v := ?_) rfl rfl (by kernel_rfl) (by kernel_rfl) (by kernel_rfl) (fun _ _ _ h => h) ⟨(fun w f hf => by simp [Oper.about] at hf), .inl ⟨by rfl, ?_⟩⟩ hS0 ?_
        rotate_left
        · intro w hSw; unfold IterS at hSw; (try dsimp only at hSw); go_simp; try (with_reducible rfl)
        try simp only [Act.put, List.setIfInBounds_toArray, List.set_cons_zero, List.set_cons_succ]
        refine anyS_take (i := 3) (oi := { dst := some 16, op := Op.fieldAddr 66 (Operand.tmp 5) 1, type := 0, pos := "cloth.go:68", after := #[], guard := none }) (v := ?_) rfl rfl (by kernel_rfl) (by kernel_rfl) (by kernel_rfl) (fun _ _ _ h => h) ⟨(fun w f hf => by simp [Oper.about] at hf), .inl ⟨by rfl, ?_⟩⟩ hS0 ?_
        rotate_left
        · intro w hSw; unfold IterS at hSw; (try dsimp only at hSw); go_simp; try (with_reducible rfl)
        try simp only [Act.put, List.setIfInBounds_toArray, List.set_cons_zero, List.set_cons_succ]
        refine anyS_take (i := 4) (oi := { dst := some 17, op := Op.load 3 (Operand.tmp 16), type := 3, pos := "cloth.go:68", after := #[{ on := 3, ground := Ground.data }], guard := none }) (v := ?_) rfl rfl (by kernel_rfl) (by kernel_rfl) (by kernel_rfl) (fun _ _ _ h => h) ⟨(fun w f hf => by simp [Oper.about] at hf), .inl ⟨by rfl, ?_⟩⟩ hS0 ?_
        rotate_left
        · intro w hSw; unfold IterS at hSw; (try dsimp only at hSw); go_simp; try (with_reducible rfl)
        try simp only [Act.put, List.setIfInBounds_toArray, List.set_cons_zero, List.set_cons_succ]
        refine anyS_take (i := 5) (oi := { dst := some 18, op := Op.nilCheck (Operand.tmp 15), type := 0, pos := "cloth.go:68", after := #[{ on := 2, ground := Ground.data }], guard := none }) (v := ?_) rfl rfl (by kernel_rfl) (by kernel_rfl) (by kernel_rfl) (fun _ _ _ h => h) ⟨(fun w f hf => by simp [Oper.about] at hf), .inl ⟨by rfl, ?_⟩⟩ hS0 ?_
        rotate_left
        · intro w hSw; unfold IterS at hSw; (try dsimp only at hSw); go_simp; try (with_reducible rfl)
        try simp only [Act.put, List.setIfInBounds_toArray, List.set_cons_zero, List.set_cons_succ]
        refine anyS_take (i := 6) (oi := { dst := some 19, op := Op.indexAddr 60 (Operand.tmp 18) (Operand.tmp 17), type := 0, pos := "cloth.go:68", after := #[{ on := 5, ground := Ground.data }, { on := 4, ground := Ground.data }], guard := none }) (v := ?_) rfl rfl (by kernel_rfl) (by kernel_rfl) (by kernel_rfl) (fun _ _ _ h => h) ⟨(fun w f hf => by simp [Oper.about] at hf), .inl ⟨by rfl, ?_⟩⟩ hS0 ?_
        rotate_left
        · intro w hSw; unfold IterS at hSw; (try dsimp only at hSw); go_simp; try (with_reducible rfl)
        try simp only [Act.put, List.setIfInBounds_toArray, List.set_cons_zero, List.set_cons_succ]
        refine anyS_take (i := 7) (oi := { dst := some 20, op := Op.load 3 (Operand.tmp 19), type := 3, pos := "cloth.go:68", after := #[{ on := 6, ground := Ground.data }], guard := none }) (v := ?_) rfl rfl (by kernel_rfl) (by kernel_rfl) (by kernel_rfl) (fun _ _ _ h => h) ⟨(fun w f hf => by simp [Oper.about] at hf), .inl ⟨by rfl, ?_⟩⟩ hS0 ?_
        rotate_left
        · intro w hSw; unfold IterS at hSw; (try dsimp only at hSw); go_simp; try (with_reducible rfl)
        try simp only [Act.put, List.setIfInBounds_toArray, List.set_cons_zero, List.set_cons_succ]
        refine anyS_take (i := 8) (oi := { dst := some 21, op := Op.load 85 (Operand.tmp 2), type := 85, pos := "cloth.go:68", after := #[], guard := none }) (v := ?_) rfl rfl (by kernel_rfl) (by kernel_rfl) (by kernel_rfl) (fun _ _ _ h => h) ⟨(fun w f hf => by simp [Oper.about] at hf), .inl ⟨by rfl, ?_⟩⟩ hS0 ?_
        rotate_left
        · intro w hSw; unfold IterS at hSw; (try dsimp only at hSw); go_simp; try (with_reducible rfl)
        try simp only [Act.put, List.setIfInBounds_toArray, List.set_cons_zero, List.set_cons_succ]
        refine anyS_take (i := 9) (oi := { dst := some 22, op := Op.fieldAddr 66 (Operand.tmp 5) 1, type := 0, pos := "cloth.go:68", after := #[], guard := none }) (v := ?_) rfl rfl (by kernel_rfl) (by kernel_rfl) (by kernel_rfl) (fun _ _ _ h => h) ⟨(fun w f hf => by simp [Oper.about] at hf), .inl ⟨by rfl, ?_⟩⟩ hS0 ?_
        rotate_left
        · intro w hSw; unfold IterS at hSw; (try dsimp only at hSw); go_simp; try (with_reducible rfl)
        try simp only [Act.put, List.setIfInBounds_toArray, List.set_cons_zero, List.set_cons_succ]
        refine anyS_take (i := 10) (oi := { dst := some 23, op := Op.load 3 (Operand.tmp 22), type := 3, pos := "cloth.go:68", after := #[{ on := 9, ground := Ground.data }], guard := none }) (v := ?_) rfl rfl (by kernel_rfl) (by kernel_rfl) (by kernel_rfl) (fun _ _ _ h => h) ⟨(fun w f hf => by simp [Oper.about] at hf), .inl ⟨by rfl, ?_⟩⟩ hS0 ?_
        rotate_left
        · intro w hSw; unfold IterS at hSw; (try dsimp only at hSw); go_simp; try (with_reducible rfl)
        try simp only [Act.put, List.setIfInBounds_toArray, List.set_cons_zero, List.set_cons_succ]
        refine anyS_take (i := 11) (oi := { dst := some 24, op := Op.binOp BinOp.add 3 (Operand.tmp 23) (Operand.const (Value.int IntKind.i64 1)) 3, type := 3, pos := "cloth.go:68", after := #[{ on := 10, ground := Ground.data }], guard := none }) (v := ?_) rfl rfl (by kernel_rfl) (by kernel_rfl) (by kernel_rfl) (fun _ _ _ h => h) ⟨(fun w f hf => by simp [Oper.about] at hf), .inl ⟨by rfl, ?_⟩⟩ hS0 ?_
        rotate_left
        · intro w hSw; unfold IterS at hSw; (try dsimp only at hSw); go_simp; try (with_reducible rfl)
        try simp only [Act.put, List.setIfInBounds_toArray, List.set_cons_zero, List.set_cons_succ]
        refine anyS_take (i := 12) (oi := { dst := some 25, op := Op.nilCheck (Operand.tmp 21), type := 0, pos := "cloth.go:68", after := #[{ on := 8, ground := Ground.data }], guard := none }) (v := ?_) rfl rfl (by kernel_rfl) (by kernel_rfl) (by kernel_rfl) (fun _ _ _ h => h) ⟨(fun w f hf => by simp [Oper.about] at hf), .inl ⟨by rfl, ?_⟩⟩ hS0 ?_
        rotate_left
        · intro w hSw; unfold IterS at hSw; (try dsimp only at hSw); go_simp; try (with_reducible rfl)
        try simp only [Act.put, List.setIfInBounds_toArray, List.set_cons_zero, List.set_cons_succ]
        refine anyS_take (i := 13) (oi := { dst := some 26, op := Op.indexAddr 60 (Operand.tmp 25) (Operand.tmp 24), type := 0, pos := "cloth.go:68", after := #[{ on := 12, ground := Ground.data }, { on := 11, ground := Ground.data }], guard := none }) (v := ?_) rfl rfl (by kernel_rfl) (by kernel_rfl) (by kernel_rfl) (fun _ _ _ h => h) ⟨(fun w f hf => by simp [Oper.about] at hf), .inl ⟨by rfl, ?_⟩⟩ hS0 ?_
        rotate_left
        · intro w hSw; unfold IterS at hSw; (try dsimp only at hSw); go_simp; try (with_reducible rfl)
        try simp only [Act.put, List.setIfInBounds_toArray, List.set_cons_zero, List.set_cons_succ]
        refine anyS_take (i := 14) (oi := { dst := some 27, op := Op.load 3 (Operand.tmp 26), type := 3, pos := "cloth.go:68", after := #[{ on := 13, ground := Ground.data }], guard := none }) (v := ?_) rfl rfl (by kernel_rfl) (by kernel_rfl) (by kernel_rfl) (fun _ _ _ h => h) ⟨(fun w f hf => by simp [Oper.about] at hf), .inl ⟨by rfl, ?_⟩⟩ hS0 ?_
        rotate_left
        · intro w hSw; unfold IterS at hSw; (try dsimp only at hSw); go_simp; try (with_reducible rfl)
        try simp only [Act.put, List.setIfInBounds_toArray, List.set_cons_zero, List.set_cons_succ]
        refine anyS_take (i := 15) (oi := { dst := some 28, op := Op.build 46 #[(0, Operand.tmp 20), (1, Operand.tmp 27)], type := 46, pos := "cloth.go:68", after := #[{ on := 7, ground := Ground.data }, { on := 14, ground := Ground.data }], guard := none }) (v := ?_) rfl rfl (by kernel_rfl) (by kernel_rfl) (by kernel_rfl) (fun _ _ _ h => h) ⟨(fun w f hf => by simp [Oper.about] at hf), .inl ⟨by rfl, ?_⟩⟩ hS0 ?_
        rotate_left
        · intro w hSw; unfold IterS at hSw; (try dsimp only at hSw); go_simp; try (with_reducible rfl)
        try simp only [Act.put, List.setIfInBounds_toArray, List.set_cons_zero, List.set_cons_succ]
        refine anyS_one (i := 16) (o := { dst := some 29, op := Op.call { callee := Callee.value (Operand.tmp 13), args := #[Operand.tmp 14, Operand.tmp 28], argTypes := #[66, 46] }, type := 4, pos := "cloth.go:68", after := #[{ on := 0, ground := Ground.data }, { on := 1, ground := Ground.data }, { on := 15, ground := Ground.data }], guard := none }) (by kernel_rfl) rfl (by rfl) (fun K hK => ?_)
        go_simp
        refine ⟨fun h => (by cases h), hRY.mono ?_⟩
        rintro e W' hpost
        obtain ⟨rfl, ⟨hJ2, hB2⟩, hkeep⟩ := yieldT (l := l) (rb := rb) hmt hpost
        simp only []
        have hS1 := hS0.keep (hkeep _ (by simp) (by omega) (by omega)) (hkeep _ (by simp; omega) (by omega) (by omega)) (hkeep _ (by simp; omega) (by omega) (by omega))
        obtain ⟨s0, s1, s2, s3, s4, s5, s6⟩ := id hS1
        refine hK _ _ hS1 ?_
        try simp only [Act.put, List.setIfInBounds_toArray, List.set_cons_zero, List.set_cons_succ]
        refine anyS_take (i := 17) (oi := { dst := some 30, op := Op.unOp UnOp.not 4 (Operand.tmp 29), type := 4, pos := "cloth.go:68", after := #[{ on := 16, ground := Ground.data }], guard := none }) (v := ?_) rfl rfl (by kernel_rfl) (by kernel_rfl) (by kernel_rfl) (fun _ _ _ h => h) ⟨(fun w f hf => by simp [Oper.about] at hf), .inl ⟨by rfl, ?_⟩⟩ (by assumption) ?_
        rotate_left
        · intro w hSw; unfold IterS at hSw; (try dsimp only at hSw); go_simp; try (with_reducible rfl)
        try simp only [Act.put, List.setIfInBounds_toArray, List.set_cons_zero, List.set_cons_succ]
        refine anyS_done (by kernel_rfl) ?_ _
        have hLW : LineAt W' g L := HLN.out.of_block ((hB2.block g (by simp; omega)).trans (Below.heap_alloc wr _ g hgw))
        have hGW : W0.grownBy W' (some g) := grownBy_trans (grownBy_drew (grownBy_trans hgr (grownBy_below (below_box (.cells #[.int .i64 wk, .int .i64 m, .int .i64 ov, .int .i64 un] 66)) _))) (grownBy_below hB2 _)
        gi_wp2_with (refine ⟨trivial, fun h => (by cases h), ?_⟩; gi_at_call 19; refine CallsIn.mono (callsIn_wide.2 (swap_any W' g m L hLW hm48)) ?_; rintro e W2 ⟨rfl, hL2, hG2⟩)
        go_roundw
        case rel =>
          refine ⟨k + 1, swapL L m, by omega, by go_num, ?_, hL2, hJ'.out _ _ hJ2 hG2, grownBy_trans hGW hG2⟩
          obtain rfl := HK.out
          have hn : (m : Int).toNat = m := by omega
          rw [HE.out, HD.out, HS.out]
          simp only [hn, HAV.out, HBV.out, hmt, if_true]
        case measure => simp [intOf]; omega
      · gi_wp2
        refine wpIn_region_S (S := (IterS wr.heap.size T2 g m wk ov un av bv)) (by kernel_rfl) ?_
        refine anyS_take (i := 0) (oi := { dst := some 13, op := Op.move (Operand.tmp 0), type := 104, pos := "cloth.go:68", after := #[], guard := none }) (v := ?_) rfl rfl (by kernel_rfl) (by kernel_rfl) (by kernel_rfl) (fun _ _ _ h => h) ⟨(fun w f hf => by simp [Oper.about] at hf), .inl ⟨by rfl, ?_⟩⟩ hS0 ?_
        rotate_left
        · intro w hSw; unfold IterS at hSw; (try dsimp only at hSw); go_simp; try (with_reducible rfl)
        try simp only [Act.put, List.setIfInBounds_toArray, List.set_cons_zero, List.set_cons_succ]
        refine anyS_take (i := 1) (oi := { dst := some 14, op := Op.load 66 (Operand.tmp 5), type := 66, pos := "cloth.go:68", after := #[], guard := none }) (v := ?_) rfl rfl (by kernel_rfl) (by kernel_rfl) (by kernel_rfl) (fun _ _ _ h => h) ⟨(fun w f hf => by simp [Oper.about] at hf), .inl ⟨by rfl, ?_⟩⟩ hS0 ?_
        rotate_left
        · intro w hSw; unfold IterS at hSw; (try dsimp only at hSw); go_simp; try (with_reducible rfl)
        try simp only [Act.put, List.setIfInBounds_toArray, List.set_cons_zero, List.set_cons_succ]
        refine anyS_take (i := 2) (oi := { dst := some 15, op := Op.load 85 (Operand.tmp 2), type := 85, pos := "cloth.go:68", after := #[], guard := none }) (v := ?_) rfl rfl (by kernel_rfl) (by kernel_rfl) (by kernel_rfl) (fun _ _ _ h => h) ⟨(fun w f hf => by simp [Oper.about] at hf), .inl ⟨by rfl, ?_⟩⟩ hS0 ?_
        rotate_left
        · intro w hSw; unfold IterS at hSw; (try dsimp only at hSw); go_simp; try (with_reducible rfl)
        try simp only [Act.put, List.setIfInBounds_toArray, List.set_cons_zero, List.set_cons_succ]
        refine anyS_take (i := 3) (oi := { dst := some 16, op := Op.fieldAddr 66 (Operand.tmp 5) 1, type := 0, pos := "cloth.go:68", after := #[], guard := none }) (v := ?_) rfl rfl (by kernel_rfl) (by kernel_rfl) (by kernel_rfl) (fun _ _ _ h => h) ⟨(fun w f hf => by simp [Oper.about] at hf), .inl ⟨by rfl, ?_⟩⟩ hS0 ?_
        rotate_left
        · intro w hSw; unfold IterS at hSw; (try dsimp only at hSw); go_simp; try (with_reducible rfl)
        try simp only [Act.put, List.setIfInBounds_toArray, List.set_cons_zero, List.set_cons_succ]
        refine anyS_take (i := 4) (oi := { dst := some 17, op := Op.load 3 (Operand.tmp 16), type := 3, pos := "cloth.go:68", after := #[{ on := 3, ground := Ground.data }], guard := none }) (v := ?_) rfl rfl (by kernel_rfl) (by kernel_rfl) (by kernel_rfl) (fun _ _ _ h => h) ⟨(fun w f hf => by simp [Oper.about] at hf), .inl ⟨by rfl, ?_⟩⟩ hS0 ?_
        rotate_left
        · intro w hSw; unfold IterS at hSw; (try dsimp only at hSw); go_simp; try (with_reducible rfl)
        try simp only [Act.put, List.setIfInBounds_toArray, List.set_cons_zero, List.set_cons_succ]
        refine anyS_take (i := 5) (oi := { dst := some 18, op := Op.nilCheck (Operand.tmp 15), type := 0, pos := "cloth.go:68", after := #[{ on := 2, ground := Ground.data }], guard := none }) (v := ?_) rfl rfl (by kernel_rfl) (by kernel_rfl) (by kernel_rfl) (fun _ _ _ h => h) ⟨(fun w f hf => by simp [Oper.about] at hf), .inl ⟨by rfl, ?_⟩⟩ hS0 ?_
        rotate_left
        · intro w hSw; unfold IterS at hSw; (try dsimp only at hSw); go_simp; try (with_reducible rfl)
        try simp only [Act.put, List.setIfInBounds_toArray, List.set_cons_zero, List.set_cons_succ]
        refine anyS_take (i := 6) (oi := { dst := some 19, op := Op.indexAddr 60 (Operand.tmp 18) (Operand.tmp 17), type := 0, pos := "cloth.go:68", after := #[{ on := 5, ground := Ground.data }, { on := 4, ground := Ground.data }], guard := none }) (v := ?_) rfl rfl (by kernel_rfl) (by kernel_rfl) (by kernel_rfl) (fun _ _ _ h => h) ⟨(fun w f hf => by simp [Oper.about] at hf), .inl ⟨by rfl, ?_⟩⟩ hS0 ?_
        rotate_left
        · intro w hSw; unfold IterS at hSw; (try dsimp only at hSw); go_simp; try (with_reducible rfl)
        try simp only [Act.put, List.setIfInBounds_toArray, List.set_cons_zero, List.set_cons_succ]
        refine anyS_take (i := 7) (oi := { dst := some 20, op := Op.load 3 (Operand.tmp 19), type := 3, pos := "cloth.go:68", after := #[{ on := 6, ground := Ground.data }], guard := none }) (v := ?_) rfl rfl (by kernel_rfl) (by kernel_rfl) (by kernel_rfl) (fun _ _ _ h => h) ⟨(fun w f hf => by simp [Oper.about] at hf), .inl ⟨by rfl, ?_⟩⟩ hS0 ?_
        rotate_left
        · intro w hSw; unfold IterS at hSw; (try dsimp only at hSw); go_simp; try (with_reducible rfl)
        try simp only [Act.put, List.setIfInBounds_toArray, List.set_cons_zero, List.set_cons_succ]
        refine anyS_take (i := 8) (oi := { dst := some 21, op := Op.load 85 (Operand.tmp 2), type := 85, pos := "cloth.go:68", after := #[], guard := none }) (v := ?_) rfl rfl (by kernel_rfl) (by kernel_rfl) (by kernel_rfl) (fun _ _ _ h => h) ⟨(fun w f hf => by simp [Oper.about] at hf), .inl ⟨by rfl, ?_⟩⟩ hS0 ?_
        rotate_left
        · intro w hSw; unfold IterS at hSw; (try dsimp only at hSw); go_simp; try (with_reducible rfl)
        try simp only [Act.put, List.setIfInBounds_toArray, List.set_cons_zero, List.set_cons_succ]
        refine anyS_take (i := 9) (oi := { dst := some 22, op := Op.fieldAddr 66 (Operand.tmp 5) 1, type := 0, pos := "cloth.go:68", after := #[], guard := none }) (v := ?_) rfl rfl (by kernel_rfl) (by kernel_rfl) (by kernel_rfl) (fun _ _ _ h => h) ⟨(fun w f hf => by simp [Oper.about] at hf), .inl ⟨by rfl, ?_⟩⟩ hS0 ?_
        rotate_left
        · intro w hSw; unfold IterS at hSw; (try dsimp only at hSw); go_simp; try (with_reducible rfl)
        try simp only [Act.put, List.setIfInBounds_toArray, List.set_cons_zero, List.set_cons_succ]
        refine anyS_take (i := 10) (oi := { dst := some 23, op := Op.load 3 (Operand.tmp 22), type := 3, pos := "cloth.go:68", after := #[{ on := 9, ground := Ground.data }], guard := none }) (v := ?_) rfl rfl (by kernel_rfl) (by kernel_rfl) (by kernel_rfl) (fun _ _ _ h => h) ⟨(fun w f hf => by simp [Oper.about] at hf), .inl ⟨by rfl, ?_⟩⟩ hS0 ?_
        rotate_left
        · intro w hSw; unfold IterS at hSw; (try dsimp only at hSw); go_simp; try (with_reducible rfl)
        try simp only [Act.put, List.setIfInBounds_toArray, List.set_cons_zero, List.set_cons_succ]
        refine anyS_take (i := 11) (oi := { dst := some 24, op := Op.binOp BinOp.add 3 (Operand.tmp 23) (Operand.const (Value.int IntKind.i64 1)) 3, type := 3, pos := "cloth.go:68", after := #[{ on := 10, ground := Ground.data }], guard := none }) (v := ?_) rfl rfl (by kernel_rfl) (by kernel_rfl) (by kernel_rfl) (fun _ _ _ h => h) ⟨(fun w f hf => by simp [Oper.about] at hf), .inl ⟨by rfl, ?_⟩⟩ hS0 ?_
        rotate_left
        · intro w hSw; unfold IterS at hSw; (try dsimp only at hSw); go_simp; try (with_reducible rfl)
        try simp only [Act.put, List.setIfInBounds_toArray, List.set_cons_zero, List.set_cons_succ]
        refine anyS_take (i := 12) (oi := { dst := some 25, op := Op.nilCheck (Operand.tmp 21), type := 0, pos := "cloth.go:68", after := #[{ on := 8, ground := Ground.data }], guard := none }) (v := ?_) rfl rfl (by kernel_rfl) (by kernel_rfl) (by kernel_rfl) (fun _ _ _ h => h) ⟨(fun w f hf => by simp [Oper.about] at hf), .inl ⟨by rfl, ?_⟩⟩ hS0 ?_
        rotate_left
        · intro w hSw; unfold IterS at hSw; (try dsimp only at hSw); go_simp; try (with_reducible rfl)
        try simp only [Act.put, List.setIfInBounds_toArray, List.set_cons_zero, List.set_cons_succ]
        refine anyS_take (i := 13) (oi := { dst := some 26, op := Op.indexAddr 60 (Operand.tmp 25) (Operand.tmp 24), type := 0, pos := "cloth.go:68", after := #[{ on := 12, ground := Ground.data }, { on := 11, ground := Ground.data }], guard := none }) (v := ?_) rfl rfl (by kernel_rfl) (by kernel_rfl) (by kernel_rfl) (fun _ _ _ h => h) ⟨(fun w f hf => by simp [Oper.about] at hf), .inl ⟨by rfl, ?_⟩⟩ hS0 ?_
        rotate_left
        · intro w hSw; unfold IterS at hSw; (try dsimp only at hSw); go_simp; try (with_reducible rfl)
        try simp only [Act.put, List.setIfInBounds_toArray, List.set_cons_zero, List.set_cons_succ]
        refine anyS_take (i := 14) (oi := { dst := some 27, op := Op.load 3 (Operand.tmp 26), type := 3, pos := "cloth.go:68", after := #[{ on := 13, ground := Ground.data }], guard := none }) (v := ?_) rfl rfl (by kernel_rfl) (by kernel_rfl) (by kernel_rfl) (fun _ _ _ h => h) ⟨(fun w f hf => by simp [Oper.about] at hf), .inl ⟨by rfl, ?_⟩⟩ hS0 ?_
        rotate_left
        · intro w hSw; unfold IterS at hSw; (try dsimp only at hSw); go_simp; try (with_reducible rfl)
        try simp only [Act.put, List.setIfInBounds_toArray, List.set_cons_zero, List.set_cons_succ]
        refine anyS_take (i := 15) (oi := { dst := some 28, op := Op.build 46 #[(0, Operand.tmp 20), (1, Operand.tmp 27)], type := 46, pos := "cloth.go:68", after := #[{ on := 7, ground := Ground.data }, { on := 14, ground := Ground.data }], guard := none }) (v := ?_) rfl rfl (by kernel_rfl) (by kernel_rfl) (by kernel_rfl) (fun _ _ _ h => h) ⟨(fun w f hf => by simp [Oper.about] at hf), .inl ⟨by rfl, ?_⟩⟩ hS0 ?_
        rotate_left
        · intro w hSw; unfold IterS at hSw; (try dsimp only at hSw); go_simp; try (with_reducible rfl)
        try simp only [Act.put, List.setIfInBounds_toArray, List.set_cons_zero, List.set_cons_succ]
        refine anyS_one (i := 16) (o := { dst := some 29, op := Op.call { callee := Callee.value (Operand.tmp 13), args := #[Operand.tmp 14, Operand.tmp 28], argTypes := #[66, 46] }, type := 4, pos := "cloth.go:68", after := #[{ on := 0, ground := Ground.data }, { on := 1, ground := Ground.data }, { on := 15, ground := Ground.data }], guard := none }) (by kernel_rfl) rfl (by rfl) (fun K hK => ?_)
        go_simp
        refine ⟨fun h => (by cases h), hRY.mono ?_⟩
        rintro e W' hpost
        obtain ⟨rfl, hJ2, hkeep⟩ := yieldF hmf hpost
        simp only []
        have hS1 := hS0.keep (hkeep _ (by simp) (by omega) (by omega)) (hkeep _ (by simp; omega) (by omega) (by omega)) (hkeep _ (by simp; omega) (by omega) (by omega))
        obtain ⟨s0, s1, s2, s3, s4, s5, s6⟩ := id hS1
        refine hK _ _ hS1 ?_
        try simp only [Act.put, List.setIfInBounds_toArray, List.set_cons_zero, List.set_cons_succ]
        refine anyS_take (i := 17) (oi := { dst := some 30, op := Op.unOp UnOp.not 4 (Operand.tmp 29), type := 4, pos := "cloth.go:68", after := #[{ on := 16, ground := Ground.data }], guard := none }) (v := ?_) rfl rfl (by kernel_rfl) (by kernel_rfl) (by kernel_rfl) (fun _ _ _ h => h) ⟨(fun w f hf => by simp [Oper.about] at hf), .inl ⟨by rfl, ?_⟩⟩ (by assumption) ?_
        rotate_left
        · intro w hSw; unfold IterS at hSw; (try dsimp only at hSw); go_simp; try (with_reducible rfl)
        try simp only [Act.put, List.setIfInBounds_toArray, List.set_cons_zero, List.set_cons_succ]
        refine anyS_done (by kernel_rfl) ?_ _
        gi_wp2
        refine bodyPost_ret (results_none rfl _ _ _) rfl ⟨⟨_, rfl⟩, .inr ⟨?_, hJ2⟩⟩
        obtain rfl := HK.out
        have hn : (m : Int).toNat = m := by omega
        rw [HE.out, HD.out, HS.out]
        simp only [hn, HAV.out, HBV.out, hmf]; rfl
    · have HE := Lib.hid hE
      gi_wp2
      go_end0
      refine ⟨⟨_, rfl⟩, .inl ⟨?_, hJr⟩⟩
      rw [HE.out, List.drop_eq_nil_of_le (by omega)]
      rfl
end Go.Proofs.Ytegbbkmppphddaa
/- A range over the crossings of a cloth, whatever its body. -/
namespace Go.Proofs.Ytegbbkmppphddaa
open Go.RowKit

/-- How a round's body may be left. -/
def PostB (ok : Bool) (rb : Nat) (I Ix : World → Prop) (W : World) : Exit → Act → World → Prop
  | .normal, _, W' => ok = true ∧ Below W.heap.size W W' ∧ I W'
  | .ret, _, W' => ok = false ∧ W.heap.size ≤ W'.heap.size ∧ (∀ k, k < W.heap.size → k ≠ rb → W'.heap[k]? = W.heap[k]?) ∧ Ix W'
  | _, _, _ => False

/-- What a round must achieve. -/
def RoundB (m : Nat) (ps : Array Tmp) (assign body : Code) (tmps : Array Value) (rb l : Nat) (I Ix : World → Prop) (W : World) (x : Cross) (av bv : Int) : Prop :=
  assign.wpIn (Fence.wide.inRound l) m Try.prog (Exit.then (fun a₁ W₁ => Below W.heap.size W W₁ ∧ ∀ W₂, I W₂ → W₂.heap.size = W₁.heap.size → (∀ k, k ≠ l → W₂.heap[k]? = W₁.heap[k]?) →
      body.wpIn (Fence.wide.inRound l) m Try.prog (PostB (meetB av bv x) rb I Ix W₂) a₁ W₂) (fun _ _ _ => False))
    { tmps := (ps.zip #[.agg #[.int .i64 x.work, .int .i64 x.at_, .int .i64 x.over, .int .i64 x.under], .agg #[.int .i64 av, .int .i64 bv]]).foldl (fun t (p, v) => t.setIfInBounds p v) tmps, defers := [] } W

theorem wpIn_range_cross {n : Nat} {g : Operand} {ps : Array Tmp} {assign body : Code} {Q : Exit → Act → World → Prop} {a : Act} {w : World}
    (T1 T2 gl rb cc : Nat) (cA : Option Addr) (crosses : List Cross) (L0 : List Int) (I Ix : World → Prop)
    (hg : a.eval g = .func (.func 50) #[] #[.pointer (some ⟨T1, 0, none⟩), .pointer (some ⟨T2, 0, none⟩)]) (hps : ps.size = 2)
    (hT1 : T1 < w.heap.size) (hT2 : T2 < w.heap.size) (hgl : gl < w.heap.size) (hrb : rb < w.heap.size)
    (n1 : T1 ≠ gl) (n2 : T2 ≠ gl) (n3 : T1 ≠ rb) (n4 : T2 ≠ rb) (n5 : gl ≠ rb)
    (h1 : w.cell? ⟨T1, 1, none⟩ = some (.slice cA crosses.length cc)) (h2 : w.cell? ⟨T2, 0, none⟩ = some (.pointer (some ⟨gl, 0, none⟩)))
    (hlen : crosses.length ≤ cc) (hcap : cc ≤ 9223372036854775807)
    (hrows : Rows w cA 4 (crosses.map Cross.cells)) (hA : ∀ b off, crosses ≠ [] → cA = some ⟨b, off, none⟩ → b ≠ gl)
    (hat : ∀ x ∈ crosses, 0 ≤ x.at_ ∧ x.at_ + 1 < 48) (hL : LineAt w gl L0)
    (hI : ∀ W W', I W → W.grownBy W' (some gl) → I W') (hIl : ∀ W l o, I W → w.heap.size ≤ l → I (W.putObj l o)) (hIx : ∀ W l o, Ix W → w.heap.size ≤ l → Ix (W.putObj l o)) (h0 : I w)
    (hround : ∀ l W x av bv, w.heap.size < l → l < W.heap.size → I W → RoundB (n - 1 - 1) ps assign body a.tmps rb l I Ix W x av bv)
    (hdone : ∀ W, (endsB L0 crosses).isSome = true → I W → W.heap[w.heap.size]? = some (.deferred (some [])) → Q .normal { a with defers := { target := .collected w.heap.size, args := #[] } :: a.defers } W)
    (hstop : ∀ W, (endsB L0 crosses).isSome = false → Ix W → W.heap[w.heap.size]? = some (.deferred (some [])) → Code.ret.wpIn Fence.wide n Try.prog Q { a with defers := { target := .collected w.heap.size, args := #[] } :: a.defers } W) :
    (Code.rangeFunc g ps assign body).wpIn Fence.wide n Try.prog Q a w := by
  refine wpIn_rangeFunc ?_
  intro fn hfn
  obtain ⟨rec, hrec⟩ : ∃ rec : LoopState → Option Code → Loop, rec = fun st pe => { state := st, pending := pe, fn, tmps := a.tmps, params := ps, assign, body, defers := w.heap.size } := ⟨_, rfl⟩
  obtain ⟨W1, hW1⟩ : ∃ W1, (w.alloc (.deferred (some []))).alloc (.loop (rec .ready none)) = W1 := ⟨_, rfl⟩
  have hB1 : Below w.heap.size w W1 := by rw [← hW1]; exact (below_box _).trans ((below_box _).mono (by simp))
  have hs1 : W1.heap.size = w.heap.size + 2 := by rw [← hW1]; simp
  have hL1 : W1.heap[w.heap.size + 1]? = some (.loop (rec .ready none)) := by
    rw [← hW1]; have := World.alloc_heap_new (w.alloc (.deferred (some []))) (.loop (rec .ready none)); rwa [World.size_alloc] at this
  have hK1 : W1.heap[w.heap.size]? = some (.deferred (some [])) := by
    rw [← hW1]; exact (Below.heap_alloc _ _ _ (by simp)).trans (World.alloc_heap_new w _)
  have hI1 : I W1 := hI _ _ h0 (grownBy_below hB1 _)
  refine ⟨w.heap.size + 1, [{ target := .collected w.heap.size, args := #[] }], W1, { target := .fn (.func 50) #[.pointer (some ⟨T1, 0, none⟩), .pointer (some ⟨T2, 0, none⟩)], args := #[.func (.yield (w.heap.size + 1)) #[] #[]] }, W1, 50,
    #[.func (.yield (w.heap.size + 1)) #[] #[]] ++ #[.pointer (some ⟨T1, 0, none⟩), .pointer (some ⟨T2, 0, none⟩)], W1, ?_, ?_, ?_, ?_, fun h => (by cases h), ?_⟩
  · rw [← hW1, hrec]; exact run_enterLoop_outer _ _ _ _ _
  · simp only [resolve, hg]
    simp [go_sem]
  · intro f' _; exact trivial
  · have eg := enters_of (P := Try.prog) Try.func50 (by kernel_rfl) rfl
    simp [invoke, go_sem, eg]
  refine CallsIn.mono (iter_any (n - 1) (w.heap.size + 1) T1 T2 gl rb cc cA crosses L0 W1
    (fun W => I W ∧ W.heap[w.heap.size + 1]? = some (.loop (rec .ready none)) ∧ W.heap[w.heap.size]? = some (.deferred (some [])))
    (fun W => Ix W ∧ W.heap[w.heap.size + 1]? = some (.loop (rec .done (some .ret))) ∧ W.heap[w.heap.size]? = some (.deferred (some [])))
    (by omega) (by omega) (by omega) (by omega) (by omega) n1 n2 n3 n4 n5 (by omega) (by omega) (by omega)
    ((hB1.cell (p := ⟨T1, 1, none⟩) hT1).trans h1) ((hB1.cell (p := ⟨T2, 0, none⟩) hT2).trans h2) hlen hcap ?rows hat (hL.of_block (hB1.block gl hgl)) ?keep ⟨hI1, hL1, hK1⟩ ?yield) ?done
  case rows =>
    intro W hW
    rcases hrows with h | ⟨b, off, hb, hlt, hc⟩
    · exact .inl h
    · by_cases hnil : crosses = []
      · exact .inl (by rw [hnil]; rfl)
      have hne := hA b off hnil hb
      refine .inr ⟨b, off, hb, by have := hW.size; omega, fun i r hr j v hv => ?_⟩
      have e1 := hW.block b (by omega) (by simpa using hne)
      exact (World.cell?_of_block (w := W1) (a := ⟨b, off + i * 4 + j, none⟩) e1).trans ((hB1.cell (p := ⟨b, off + i * 4 + j, none⟩) hlt).trans (hc i r hr j v hv))
  case keep =>
    rintro W W' ⟨hi, hl, hk⟩ hg'
    exact ⟨hI _ _ hi hg', (hg'.block _ (Array.getElem?_eq_some_iff.1 hl).1 (by simp; omega)).trans hl, (hg'.block _ (Array.getElem?_eq_some_iff.1 hk).1 (by simp; omega)).trans hk⟩
  case yield =>
    rintro W x av bv hgr ⟨hi, hl, hk⟩
    have hlt : w.heap.size + 1 < W.heap.size := (Array.getElem?_eq_some_iff.1 hl).1
    have hy := run_yield (P := Try.prog) (args := #[.agg #[.int .i64 x.work, .int .i64 x.at_, .int .i64 x.over, .int .i64 x.under], .agg #[.int .i64 av, .int .i64 bv]]) hl (by rw [hrec]; exact hps.symm)
    rw [hrec] at hy
    refine ⟨fn, _, assign, body, hy, roundIn_of_wpIn hfn ?_⟩
    refine wpIn_mono (hround (w.heap.size + 1) W x av bv (by omega) hlt hi) ?_
    rintro e a1 W2 h
    cases e with
    | normal =>
      obtain ⟨hb2, hbody⟩ := h
      have hl2 : W2.heap[w.heap.size + 1]? = some (.loop (rec .ready none)) := (hb2.block _ hlt).trans hl
      have hk2 : W2.heap[w.heap.size]? = some (.deferred (some [])) := (hb2.block _ (by omega)).trans hk
      have hlt2 := (Array.getElem?_eq_some_iff.1 hl2).1
      refine ⟨_, run_beginRound hl2 (by rw [hrec]), ?_⟩
      have hl3 : (W2.putObj (w.heap.size + 1) (.loop { rec .ready none with state := .busy })).heap[w.heap.size + 1]? = some (.loop { rec .ready none with state := .busy }) := World.putObj_heap_same hlt2
      have hk3 : (W2.putObj (w.heap.size + 1) (.loop { rec .ready none with state := .busy })).heap[w.heap.size]? = some (.deferred (some [])) := (World.putObj_heap_other (by omega)).trans hk2
      have hs3 : (W2.putObj (w.heap.size + 1) (.loop { rec .ready none with state := .busy })).heap.size = W2.heap.size := by simp [World.putObj]
      have ho3 : ∀ k, k ≠ w.heap.size + 1 → (W2.putObj (w.heap.size + 1) (.loop { rec .ready none with state := .busy })).heap[k]? = W2.heap[k]? := fun k hne => World.putObj_heap_other hne
      have hi3 : I (W2.putObj (w.heap.size + 1) (.loop { rec .ready none with state := .busy })) := hIl _ _ _ (hI _ _ hi (grownBy_below hb2 _)) (by omega)
      refine wpIn_mono (hbody _ hi3 hs3 ho3) ?_
      have he3 : (W2.putObj (w.heap.size + 1) (.loop { rec .ready none with state := .busy })).os = W2.os ∧ (W2.putObj (w.heap.size + 1) (.loop { rec .ready none with state := .busy })).tape = W2.tape ∧ (W2.putObj (w.heap.size + 1) (.loop { rec .ready none with state := .busy })).output = W2.output := ⟨rfl, rfl, rfl⟩
      generalize (W2.putObj (w.heap.size + 1) (.loop { rec .ready none with state := .busy })) = W3 at *
      rintro e a3 W4 hp
      have hws : W.heap.size ≤ W3.heap.size := by have := hb2.size; omega
      cases e with
      | normal =>
        obtain ⟨hok, hb4, hi4⟩ := hp
        have hl4 : W4.heap[w.heap.size + 1]? = _ := (hb4.block _ (by omega)).trans hl3
        have hk4 : W4.heap[w.heap.size]? = _ := (hb4.block _ (by omega)).trans hk3
        have hend := run_endRound (P := Try.prog) none hl4
        have hrr : ({ rec .ready none with state := .busy : Loop } : Loop) = { rec .ready none with state := .busy } := rfl
        have hready : ({ { rec .ready none with state := .busy : Loop } with state := if (none : Option Code).isNone then .ready else .done, pending := none } : Loop) = rec .ready none := by rw [hrec]; rfl
        rw [hready] at hend
        refine ⟨_, _, hend, .inl ⟨hok, rfl, ⟨hIl _ _ _ hi4 (by omega), World.putObj_heap_same (Array.getElem?_eq_some_iff.1 hl4).1, (World.putObj_heap_other (by omega)).trans hk4⟩, ?_⟩⟩
        refine ⟨hb4.os.trans (he3.1.trans hb2.os), hb4.tape.trans (he3.2.1.trans hb2.tape), hb4.output.trans (he3.2.2.trans hb2.output), ?_, ?_⟩
        · have := hb4.size; simp [World.putObj]; omega
        · intro k hk'
          by_cases hkl : k = w.heap.size + 1
          · subst hkl
            exact (World.putObj_heap_same (Array.getElem?_eq_some_iff.1 hl4).1).trans hl.symm
          · exact (World.putObj_heap_other hkl).trans ((hb4.block _ (by omega)).trans ((ho3 k hkl).trans (hb2.block _ hk')))
      | ret =>
        obtain ⟨hok, hs4, hb4, hi4⟩ := hp
        have hl4 : W4.heap[w.heap.size + 1]? = _ := (hb4 _ (by omega) (by omega)).trans hl3
        have hk4 : W4.heap[w.heap.size]? = _ := (hb4 _ (by omega) (by omega)).trans hk3
        have hend := run_endRound (P := Try.prog) (some .ret) hl4
        have hready : ({ { rec .ready none with state := .busy : Loop } with state := if (some Code.ret : Option Code).isNone then .ready else .done, pending := some .ret } : Loop) = rec .done (some .ret) := by rw [hrec]; rfl
        rw [hready] at hend
        refine ⟨_, _, hend, .inr ⟨hok, rfl, ⟨hIx _ _ _ hi4 (by omega), World.putObj_heap_same (Array.getElem?_eq_some_iff.1 hl4).1, (World.putObj_heap_other (by omega)).trans hk4⟩, ?_⟩⟩
        intro k hk' hkr hkl
        exact (World.putObj_heap_other hkl).trans ((hb4 _ (by omega) hkr).trans ((ho3 k hkl).trans (hb2.block _ hk')))
      | _ => exact hp.elim
    | _ => exact h.elim
  case done =>
    rintro e W2 ⟨⟨v, rfl⟩, (⟨hok, hi, hl, hk⟩ | ⟨hok, hi, hl, hk⟩)⟩
    · have := run_endLoop (P := Try.prog) hl (by rw [hrec]; simp)
      exact ⟨none, _, by rw [this, hrec], hdone _ hok (hIl _ _ _ hi (by omega)) ((World.putObj_heap_other (by omega)).trans hk)⟩
    · have := run_endLoop (P := Try.prog) hl (by rw [hrec]; simp)
      exact ⟨some .ret, _, by rw [this, hrec], hstop _ hok (hIx _ _ _ hi (by omega)) ((World.putObj_heap_other (by omega)).trans hk)⟩
end Go.Proofs.Ytegbbkmppphddaa
/- Two arrays of two numbers, compared. -/
namespace Go.Proofs.Ytegbbkmppphddaa
open Go.RowKit

theorem und2 : Try.prog.underlying 46 = some (.array 2 3) := by kernel_rfl
theorem cells2 : Try.prog.cellsOf 3 = 1 := by kernel_rfl
theorem run_eq2 (a b c d : Int) (w : World) :
    (Op.equalIn 10000 46 (.agg #[.int .i64 a, .int .i64 b]) (.agg #[.int .i64 c, .int .i64 d])).run Try.prog w = .ok (decide (a = c) && decide (b = d)) w := by
  obtain ⟨i, hi⟩ : ∃ i, Try.prog.info? 3 = some i := by
    cases h : Try.prog.info? 3 with
    | none => exact absurd h (by intro h; have : (Try.prog.info? 3).isSome = true := by kernel_rfl
                                 rw [h] at this; cases this)
    | some i => exact ⟨i, rfl⟩
  rw [show (10000 : Nat) = 9998 + 1 + 1 from rfl, run_equalIn_array w (9998 + 1) _ _ und2 hi, cells2]
  rw [show List.range 2 = [0, 1] from rfl]
  by_cases h1 : a = c <;> by_cases h2 : b = d <;> simp [Op.eqItems, go_sem, h1, h2]
end Go.Proofs.Ytegbbkmppphddaa
/- The program's check of a cloth. -/
namespace Go.Proofs.Ytegbbkmppphddaa
open Go.RowKit
attribute [local go_sem] Oper.semAt_some run_eq2

theorem in_yes {w : World} {n a b : Int} (h : a ≤ n ∧ n ≤ b) : Calls Try.prog 41 #[.int .i64 n, .int .i64 a, .int .i64 b] w fun e w' => e = .returned (.bool true) ∧ w = w' := by
  have := in_any (w := w) n a b
  rwa [show (decide (a ≤ n) && decide (n ≤ b)) = true by simp [h.1, h.2]] at this
theorem in_no {w : World} {n a b : Int} (h : n < a ∨ b < n) : Calls Try.prog 41 #[.int .i64 n, .int .i64 a, .int .i64 b] w fun e w' => e = .returned (.bool false) ∧ w = w' := by
  have := in_any (w := w) n a b
  rwa [show (decide (a ≤ n) && decide (n ≤ b)) = false by simp; omega] at this
theorem wpListIn_store_mid {F : Fence} {n : Nat} {P : Program} {ops : Array Oper} {rest : List Oper} {op : Oper} {a : Act} {w : World} {Q : Exit → Act → World → Prop} (hro : F.round = none) (hgd : op.guard = none) (ty : TypeId) (x y : Operand) (ho : op.op = .store ty x y)
    (b o : Nat) (cells : Array Value) (hx : a.eval x = .pointer (some ⟨b, o, none⟩)) (hy : a.eval y = .agg cells)
    (ht : w.there b o cells.size) (hi : (P.info? ty).map (·.size) = some cells.size) (h1 : cells.all (·.oneCell') = true)
    (h : wpListIn F n P ops Q rest (a.put op.dst undef) (w.setCells b o cells.toList)) : wpListIn F n P ops Q (op :: rest) a w :=
  wpListIn_plain hgd fun _ hK => by
    refine ⟨fun f hf => by simp [Oper.about, ho] at hf, ?_⟩
    rw [hro, Oper.semAt_none]
    unfold execOp
    simp only [ho, hx, hy, Instr.storeAt, Instr.sureAddr, Sem.run_bind, Sem.run_pure, Result.andThen_ok, run_storeVar_mid w b o ty cells ht hi h1]
    exact hK _ _ h

def ClPost (w : World) (v : Int) (e : Ending) (w' : World) : Prop := e = .returned (.int .i64 v) ∧ Below w.heap.size w w'
theorem below_box2 (w : World) (o p : Obj) : Below w.heap.size w ((w.alloc o).alloc p) := (below_box o).trans ((below_box p).mono (by simp))

theorem wide_fn (f : FuncId) : Fence.wide.fn f := trivial
theorem wide_depth {n : Nat} : Fence.wide.depth.isSome = true → 1 ≤ n := fun h => by cases h
theorem retM {F : Fence} {n : Nat} {P : Program} {fn : Func} {R : Ending → World → Prop} {a : Act} {w : World} {v : Value} (hd : a.defers = []) (hr : (results fn a.tmps).run P w = .ok v w) (hR : R (.returned v) w) :
    bodyPostM F n P fn R .ret a w := by
  show LeavesInM F n P fn a.tmps R a.defers .returning w
  rw [hd]
  exact ⟨v, hr, hR⟩
theorem retM1 {F : Fence} {n : Nat} {P : Program} {fn : Func} {R : Ending → World → Prop} {a : Act} {w : World} {v : Value} {D : Nat} (hd : a.defers = [{ target := .collected D, args := #[] }])
    (hD : w.heap[D]? = some (.deferred (some []))) (hr : (results fn a.tmps).run P (w.putObj D (.deferred none)) = .ok v (w.putObj D (.deferred none))) (hR : R (.returned v) (w.putObj D (.deferred none))) :
    bodyPostM F n P fn R .ret a w := by
  show LeavesInM F n P fn a.tmps R a.defers .returning w
  rw [hd]
  exact ⟨by simp, .inl ⟨D, _, rfl, run_takeDeferred hD, v, hr, hR⟩⟩
def okC (c : Cloth) (m : Nat) : Bool := decide (2 ≤ c.threads) && (c.crosses.take m).all (crossOk c.threads)
def okP (c : Cloth) (m : Nat) : Bool := decide (2 ≤ c.threads) && c.crosses.all (crossOk c.threads) && (c.pins.take m).all (pinOk c.threads)
theorem okC_succ {c : Cloth} {m : Nat} (h : m < c.crosses.length) : okC c (m + 1) = (okC c m && crossOk c.threads c.crosses[m]) := by
  unfold okC; rw [all_take_succ h, Bool.and_assoc]
theorem okP_succ {c : Cloth} {m : Nat} (h : m < c.pins.length) : okP c (m + 1) = (okP c m && pinOk c.threads c.pins[m]) := by
  unfold okP; rw [all_take_succ h]; simp [Bool.and_assoc]
theorem okC_two {c : Cloth} {m : Nat} (h : okC c m = true) : 2 ≤ c.threads := by unfold okC at h; simp at h; exact h.1
theorem okP_two {c : Cloth} {m : Nat} (h : okP c m = true) : 2 ≤ c.threads := by unfold okP at h; simp at h; exact h.1.1
theorem okC_end (c : Cloth) : okC c c.crosses.length = okP c 0 := by simp [okC, okP]
theorem okP_end (c : Cloth) : okP c c.pins.length = numbersB c := by simp [okP, numbersB]

theorem line_sz : (Try.prog.info? 60).map (·.size) = some (ints (iota 48)).toArray.size := by rw [line_size]; simp [ints, iota_length]
theorem line_ones : (ints (iota 48)).toArray.all (·.oneCell') = true := by
  rw [Array.all_eq_true_iff_forall_mem]
  intro u hu
  exact ints_one (iota 48) u (by simpa using hu)
theorem line_there (w : World) : (w.alloc (.cells #[.int .i64 0, .int .i64 0, .int .i64 0, .int .i64 0, .int .i64 0, .int .i64 0, .int .i64 0, .int .i64 0, .int .i64 0, .int .i64 0, .int .i64 0, .int .i64 0, .int .i64 0, .int .i64 0, .int .i64 0, .int .i64 0, .int .i64 0, .int .i64 0, .int .i64 0, .int .i64 0, .int .i64 0, .int .i64 0, .int .i64 0, .int .i64 0, .int .i64 0, .int .i64 0, .int .i64 0, .int .i64 0, .int .i64 0, .int .i64 0, .int .i64 0, .int .i64 0, .int .i64 0, .int .i64 0, .int .i64 0, .int .i64 0, .int .i64 0, .int .i64 0, .int .i64 0, .int .i64 0, .int .i64 0, .int .i64 0, .int .i64 0, .int .i64 0, .int .i64 0, .int .i64 0, .int .i64 0, .int .i64 0] 60)).there w.heap.size 0 (ints (iota 48)).toArray.size := fun j hj => by
  have hj' : j < 48 := by simpa [ints, iota_length] using hj
  rw [Nat.zero_add]
  exact ⟨by rw [(line_zero w).cell hj']; rfl, (line_zero w).frozen j⟩
theorem line_stored (w W2 : World) (h : (w.alloc (.cells #[.int .i64 0, .int .i64 0, .int .i64 0, .int .i64 0, .int .i64 0, .int .i64 0, .int .i64 0, .int .i64 0, .int .i64 0, .int .i64 0, .int .i64 0, .int .i64 0, .int .i64 0, .int .i64 0, .int .i64 0, .int .i64 0, .int .i64 0, .int .i64 0, .int .i64 0, .int .i64 0, .int .i64 0, .int .i64 0, .int .i64 0, .int .i64 0, .int .i64 0, .int .i64 0, .int .i64 0, .int .i64 0, .int .i64 0, .int .i64 0, .int .i64 0, .int .i64 0, .int .i64 0, .int .i64 0, .int .i64 0, .int .i64 0, .int .i64 0, .int .i64 0, .int .i64 0, .int .i64 0, .int .i64 0, .int .i64 0, .int .i64 0, .int .i64 0, .int .i64 0, .int .i64 0, .int .i64 0, .int .i64 0] 60)).setCells w.heap.size 0 (ints (iota 48)).toArray.toList = W2) :
    LineAt W2 w.heap.size (iota 48) ∧ Below w.heap.size w W2 ∧ W2.heap.size = w.heap.size + 1 := by
  subst h
  exact ⟨(line_zero w).setCells (iota_length 48), below_setCells (below_box _) (Nat.le_refl _) 0 _, by rw [setCells_size]; simp⟩

set_option maxRecDepth 100000 in
set_option maxHeartbeats 2000000 in
theorem check_any {w : World} {cA : Option Addr} {cc : Nat} {pA : Option Addr} {pc : Nat} {c : Cloth} (h : ClothRd w cA cc pA pc c) :
    Calls Try.prog 23 #[clothVal cA cc pA pc c] w (ClPost w (clothB c)) := by
  have hcl := h.clen
  have hcm := h.ccap
  have hpl := h.plen
  have hpm := h.pcap
  unfold maxLen at hcm hpm
  have hth := h.wf.threads
  unfold I64 at hth
  refine (callsIn_wide (n := 3)).1 ?_
  refine callsIn_of_wp_marks Try.func23 rfl trivial ?_ rfl
  simp only [Try.ntmps23, List.size_toArray, List.length_cons, List.length_nil, Nat.reduceAdd, Nat.reduceSub, Array.replicate_succ, Array.replicate_zero, List.push_toArray, List.append_toArray, List.nil_append, List.cons_append]
  by_cases s1 : 48 < c.threads
  · gi_wp2
    exact retM (v := .int .i64 3) rfl (by simp [results, Try.f23, go_sem]) ⟨by rw [show clothB c = 3 by simp [clothB, s1]], below_box2 _ _ _⟩
  by_cases s2 : 20000 < c.crosses.length
  · gi_wp2
    exact retM (v := .int .i64 3) rfl (by simp [results, Try.f23, go_sem]) ⟨by rw [show clothB c = 3 by simp [clothB, s2]], below_box2 _ _ _⟩
  by_cases s3 : 6400 < c.pins.length
  · gi_wp2
    exact retM (v := .int .i64 3) rfl (by simp [results, Try.f23, go_sem]) ⟨by rw [show clothB c = 3 by simp [clothB, s3]], below_box2 _ _ _⟩
  have s1' : decide (48 < c.threads) = false := by simp; omega
  have s2' : decide (20000 < (c.crosses.length : Int)) = false := by simp; omega
  have s3' : decide (6400 < (c.pins.length : Int)) = false := by simp; omega
  have S1 := Lib.hid s1
  have S2 := Lib.hid s2
  have S3 := Lib.hid s3
  clear s1 s2 s3
  gi_wp2
  clear s1' s2' s3'
  generalize htwo : decide (2 ≤ c.threads) = two
  have HT := Lib.hid htwo
  clear htwo
  gi_loopw [3, 32] (fun b i wr => ∃ m : Nat, m ≤ c.crosses.length ∧ i = .int .i64 m ∧ b = .bool (okC c m) ∧ Below (w.heap.size + 2) ((w.alloc (.cells #[.int .i64 c.threads, .slice cA c.crosses.length cc, .slice pA c.pins.length pc] 36)).alloc (.cells #[.int .i64 0] 31)) wr)
    (fun _ i _ => c.crosses.length - (intOf i).toNat)
  case atStart => exact ⟨0, by omega, rfl, by rw [← HT.out]; simp [okC], Below.refl _ _⟩
  case round =>
    obtain ⟨m, hm, rfl, rfl, hbl⟩ := hrel
    obtain ⟨hcell, _⟩ := bcell hbl
    have hszr : w.heap.size + 2 ≤ wr.heap.size := by have := hbl.size; simp at this; omega
    by_cases hml : m < c.crosses.length
    · obtain ⟨b, off, rfl, hb, k0, k1, k2, k3⟩ := h.crosses.cross hml
      have hb1 : b < w.heap.size + 2 := by omega
      have hb2 : b < w.heap.size + 1 := by omega
      have hxr : w.heap.size < wr.heap.size := by omega
      have hwf := h.wf.crosses _ (List.getElem_mem hml)
      unfold Cross.wf I64 at hwf
      have HX : Hid (crossOk c.threads c.crosses[m] = (decide (0 ≤ c.crosses[m].at_) && decide (c.crosses[m].at_ ≤ c.threads - 2) && decide (0 ≤ c.crosses[m].work))) := rfl
      have HS := Lib.hid (okC_succ hml)
      have hend : ∀ o, Below (w.heap.size + 2) ((w.alloc (.cells #[.int .i64 c.threads, .slice (some ⟨b, off, none⟩) c.crosses.length cc, .slice pA c.pins.length pc] 36)).alloc (.cells #[.int .i64 0] 31)) (wr.alloc o) := fun o => hbl.alloc hszr o
      have HEND := Lib.hid hend
      clear hend
      generalize c.crosses[m].at_ = at_ at *
      generalize c.crosses[m].work = wk at *
      rcases Bool.eq_false_or_eq_true (okC c m) with hok | hok
      · have h2 := okC_two hok
        have HOK := Lib.hid hok
        rw [hok]
        clear hok
        by_cases c1 : 0 ≤ at_ ∧ at_ ≤ c.threads - 2
        · skip
          by_cases c2 : 0 ≤ wk
          · skip
            gi_wp2_with (first | (with_reducible refine And.intro (wide_fn _) ?_) | (with_reducible refine And.intro wide_depth ?_) | (gi_at_call 41; first | (refine CallsIn.mono (callsIn_wide.2 (in_yes (by omega))) ?_; rintro e w1 ⟨rfl, rfl⟩) | (refine CallsIn.mono (callsIn_wide.2 (in_no (by omega))) ?_; rintro e w1 ⟨rfl, rfl⟩)))
            go_roundw
            case rel => exact ⟨m + 1, by omega, by go_num, by rw [HS.out, HOK.out, HX.out]; refine congrArg Value.bool ?_; rw [Bool.eq_iff_iff]; simp; try omega, HEND.out _⟩
            case measure => simp [intOf]; omega
          · skip
            gi_wp2_with (first | (with_reducible refine And.intro (wide_fn _) ?_) | (with_reducible refine And.intro wide_depth ?_) | (gi_at_call 41; first | (refine CallsIn.mono (callsIn_wide.2 (in_yes (by omega))) ?_; rintro e w1 ⟨rfl, rfl⟩) | (refine CallsIn.mono (callsIn_wide.2 (in_no (by omega))) ?_; rintro e w1 ⟨rfl, rfl⟩)))
            go_roundw
            case rel => exact ⟨m + 1, by omega, by go_num, by rw [HS.out, HOK.out, HX.out]; refine congrArg Value.bool ?_; rw [Bool.eq_iff_iff]; simp; try omega, HEND.out _⟩
            case measure => simp [intOf]; omega
        · skip
          gi_wp2_with (first | (with_reducible refine And.intro (wide_fn _) ?_) | (with_reducible refine And.intro wide_depth ?_) | (gi_at_call 41; first | (refine CallsIn.mono (callsIn_wide.2 (in_yes (by omega))) ?_; rintro e w1 ⟨rfl, rfl⟩) | (refine CallsIn.mono (callsIn_wide.2 (in_no (by omega))) ?_; rintro e w1 ⟨rfl, rfl⟩)))
          go_roundw
          case rel => exact ⟨m + 1, by omega, by go_num, by rw [HS.out, HOK.out, HX.out]; refine congrArg Value.bool ?_; rw [Bool.eq_iff_iff]; simp; try omega, HEND.out _⟩
          case measure => simp [intOf]; omega
      · have HOK := Lib.hid hok
        rw [hok]
        clear hok
        gi_wp2_with (first | (with_reducible refine And.intro (wide_fn _) ?_) | (with_reducible refine And.intro wide_depth ?_) | (gi_at_call 41; first | (refine CallsIn.mono (callsIn_wide.2 (in_yes (by omega))) ?_; rintro e w1 ⟨rfl, rfl⟩) | (refine CallsIn.mono (callsIn_wide.2 (in_no (by omega))) ?_; rintro e w1 ⟨rfl, rfl⟩)))
        go_roundw
        case rel => exact ⟨m + 1, by omega, by go_num, by rw [HS.out, HOK.out, HX.out]; refine congrArg Value.bool ?_; rw [Bool.eq_iff_iff]; simp; try omega, HEND.out _⟩
        case measure => simp [intOf]; omega
    · obtain rfl : m = c.crosses.length := by omega
      clear hml hm
      rw [okC_end]
      gi_wp2
      obtain ⟨wo, rfl⟩ : ∃ wo : World, wo = wr := ⟨_, rfl⟩
      clear hcell
      gi_loopw [3, 54] (fun b i wr => ∃ m : Nat, m ≤ c.pins.length ∧ i = .int .i64 m ∧ b = .bool (okP c m) ∧ Below (w.heap.size + 2) ((w.alloc (.cells #[.int .i64 c.threads, .slice cA c.crosses.length cc, .slice pA c.pins.length pc] 36)).alloc (.cells #[.int .i64 0] 31)) wr)
        (fun _ i _ => c.pins.length - (intOf i).toNat)
      case atStart => exact ⟨0, by omega, rfl, rfl, hbl⟩
      case round =>
        clear hbl hszr
        obtain ⟨m, hm, rfl, rfl, hbl⟩ := hrel
        obtain ⟨hcell, hfro⟩ := bcell hbl
        have hszr : w.heap.size + 2 ≤ wr.heap.size := by have := hbl.size; simp at this; omega
        by_cases hml : m < c.pins.length
        · obtain ⟨b, off, rfl, hb, k0, k1, k2, k3⟩ := h.pins.pin hml
          have hb1 : b < w.heap.size + 2 := by omega
          have hb2 : b < w.heap.size + 1 := by omega
          have hxr : w.heap.size < wr.heap.size := by omega
          have hwf := h.wf.pins _ (List.getElem_mem hml)
          unfold Pin.wf I64 at hwf
          have HX : Hid (pinOk c.threads c.pins[m] = (decide (0 ≤ c.pins[m].at_) && decide (c.pins[m].at_ ≤ c.threads - 2) && decide (0 ≤ c.pins[m].work) && (decide (0 ≤ c.pins[m].left) && decide (c.pins[m].left ≤ c.threads - 1)) && (decide (0 ≤ c.pins[m].right) && decide (c.pins[m].right ≤ c.threads - 1)) && !decide (c.pins[m].left = c.pins[m].right))) := rfl
          have HS := Lib.hid (okP_succ hml)
          have hend : ∀ o, Below (w.heap.size + 2) ((w.alloc (.cells #[.int .i64 c.threads, .slice cA c.crosses.length cc, .slice (some ⟨b, off, none⟩) c.pins.length pc] 36)).alloc (.cells #[.int .i64 0] 31)) (wr.alloc o) := fun o => hbl.alloc hszr o
          have HEND := Lib.hid hend
          clear hend
          generalize c.pins[m].at_ = at_ at *
          generalize c.pins[m].work = wk at *
          generalize c.pins[m].left = lf at *
          generalize c.pins[m].right = rt at *
          rcases Bool.eq_false_or_eq_true (okP c m) with hok | hok
          · have h2 := okP_two hok
            have HOK := Lib.hid hok
            rw [hok]
            clear hok
            by_cases c1 : 0 ≤ at_ ∧ at_ ≤ c.threads - 2
            · skip
              by_cases c2 : 0 ≤ wk
              · skip
                by_cases c3 : 0 ≤ lf ∧ lf ≤ c.threads - 1
                · skip
                  by_cases c4 : 0 ≤ rt ∧ rt ≤ c.threads - 1
                  · skip
                    by_cases c5 : lf ≠ rt
                    · skip
                      gi_wp2_with (first | (with_reducible refine And.intro (wide_fn _) ?_) | (with_reducible refine And.intro wide_depth ?_) | (gi_at_call 41; first | (refine CallsIn.mono (callsIn_wide.2 (in_yes (by omega))) ?_; rintro e w1 ⟨rfl, rfl⟩) | (refine CallsIn.mono (callsIn_wide.2 (in_no (by omega))) ?_; rintro e w1 ⟨rfl, rfl⟩)))
                      go_roundw
                      case rel => exact ⟨m + 1, by omega, by go_num, by rw [HS.out, HOK.out, HX.out]; refine congrArg Value.bool ?_; rw [Bool.eq_iff_iff]; simp; try omega, HEND.out _⟩
                      case measure => simp [intOf]; omega
                    · skip
                      gi_wp2_with (first | (with_reducible refine And.intro (wide_fn _) ?_) | (with_reducible refine And.intro wide_depth ?_) | (gi_at_call 41; first | (refine CallsIn.mono (callsIn_wide.2 (in_yes (by omega))) ?_; rintro e w1 ⟨rfl, rfl⟩) | (refine CallsIn.mono (callsIn_wide.2 (in_no (by omega))) ?_; rintro e w1 ⟨rfl, rfl⟩)))
                      go_roundw
                      case rel => exact ⟨m + 1, by omega, by go_num, by rw [HS.out, HOK.out, HX.out]; refine congrArg Value.bool ?_; rw [Bool.eq_iff_iff]; simp; try omega, HEND.out _⟩
                      case measure => simp [intOf]; omega
                  · skip
                    gi_wp2_with (first | (with_reducible refine And.intro (wide_fn _) ?_) | (with_reducible refine And.intro wide_depth ?_) | (gi_at_call 41; first | (refine CallsIn.mono (callsIn_wide.2 (in_yes (by omega))) ?_; rintro e w1 ⟨rfl, rfl⟩) | (refine CallsIn.mono (callsIn_wide.2 (in_no (by omega))) ?_; rintro e w1 ⟨rfl, rfl⟩)))
                    go_roundw
                    case rel => exact ⟨m + 1, by omega, by go_num, by rw [HS.out, HOK.out, HX.out]; refine congrArg Value.bool ?_; rw [Bool.eq_iff_iff]; simp; try omega, HEND.out _⟩
                    case measure => simp [intOf]; omega
                · skip
                  gi_wp2_with (first | (with_reducible refine And.intro (wide_fn _) ?_) | (with_reducible refine And.intro wide_depth ?_) | (gi_at_call 41; first | (refine CallsIn.mono (callsIn_wide.2 (in_yes (by omega))) ?_; rintro e w1 ⟨rfl, rfl⟩) | (refine CallsIn.mono (callsIn_wide.2 (in_no (by omega))) ?_; rintro e w1 ⟨rfl, rfl⟩)))
                  go_roundw
                  case rel => exact ⟨m + 1, by omega, by go_num, by rw [HS.out, HOK.out, HX.out]; refine congrArg Value.bool ?_; rw [Bool.eq_iff_iff]; simp; try omega, HEND.out _⟩
                  case measure => simp [intOf]; omega
              · skip
                gi_wp2_with (first | (with_reducible refine And.intro (wide_fn _) ?_) | (with_reducible refine And.intro wide_depth ?_) | (gi_at_call 41; first | (refine CallsIn.mono (callsIn_wide.2 (in_yes (by omega))) ?_; rintro e w1 ⟨rfl, rfl⟩) | (refine CallsIn.mono (callsIn_wide.2 (in_no (by omega))) ?_; rintro e w1 ⟨rfl, rfl⟩)))
                go_roundw
                case rel => exact ⟨m + 1, by omega, by go_num, by rw [HS.out, HOK.out, HX.out]; refine congrArg Value.bool ?_; rw [Bool.eq_iff_iff]; simp; try omega, HEND.out _⟩
                case measure => simp [intOf]; omega
            · skip
              gi_wp2_with (first | (with_reducible refine And.intro (wide_fn _) ?_) | (with_reducible refine And.intro wide_depth ?_) | (gi_at_call 41; first | (refine CallsIn.mono (callsIn_wide.2 (in_yes (by omega))) ?_; rintro e w1 ⟨rfl, rfl⟩) | (refine CallsIn.mono (callsIn_wide.2 (in_no (by omega))) ?_; rintro e w1 ⟨rfl, rfl⟩)))
              go_roundw
              case rel => exact ⟨m + 1, by omega, by go_num, by rw [HS.out, HOK.out, HX.out]; refine congrArg Value.bool ?_; rw [Bool.eq_iff_iff]; simp; try omega, HEND.out _⟩
              case measure => simp [intOf]; omega
          · have HOK := Lib.hid hok
            rw [hok]
            clear hok
            gi_wp2_with (first | (with_reducible refine And.intro (wide_fn _) ?_) | (with_reducible refine And.intro wide_depth ?_) | (gi_at_call 41; first | (refine CallsIn.mono (callsIn_wide.2 (in_yes (by omega))) ?_; rintro e w1 ⟨rfl, rfl⟩) | (refine CallsIn.mono (callsIn_wide.2 (in_no (by omega))) ?_; rintro e w1 ⟨rfl, rfl⟩)))
            go_roundw
            case rel => exact ⟨m + 1, by omega, by go_num, by rw [HS.out, HOK.out, HX.out]; refine congrArg Value.bool ?_; rw [Bool.eq_iff_iff]; simp; try omega, HEND.out _⟩
            case measure => simp [intOf]; omega
        · obtain rfl : m = c.pins.length := by omega
          clear hml hm
          rw [okP_end]
          have hcr := (hcell (w.heap.size + 1) 0 (by omega)).trans (by simp : _ = some (.int .i64 0))
          have hfr := (hfro (w.heap.size + 1) 0 (by omega)).trans (by simp : _ = false)
          rcases Bool.eq_false_or_eq_true (numbersB c) with hn | hn
          · have HN := Lib.hid hn
            rw [hn]
            clear hn
            gi_wp2_with (first | (with_reducible refine And.intro (wide_fn _) ?_) | (with_reducible refine And.intro wide_depth ?_) | (gi_at_call 16; refine CallsIn.mono (callsIn_wide.2 (begun_any _)) ?_; rintro e w1 ⟨rfl, hB1⟩) | (refine wpListIn_store_mid rfl rfl 60 (.tmp 8) (.tmp 98) rfl w1.heap.size 0 _ rfl rfl (line_there w1) line_sz line_ones ?_; generalize hW2 : World.setCells _ _ _ _ = W2; obtain ⟨hL2, hB2, hs2'⟩ := line_stored w1 W2 hW2; clear hW2; have hs2h := Lib.hid hs2'; clear hs2'; have hBW := Lib.hid (hbl.trans ((hB1.mono hszr).trans (hB2.mono (Nat.le_trans hszr hB1.size)))); obtain ⟨hcell2, hfro2⟩ := bcell hBW.out; clear hcell hfro hcr hfr; have hg1 : w.heap.size + 2 ≤ w1.heap.size := Nat.le_trans hszr hB1.size) | (gi_at_call 42; refine CallsIn.mono (callsIn_wide.2 crossings_any) ?_; rintro e w3 ⟨rfl, rfl⟩))
            have hcr := (hcell2 (w.heap.size + 1) 0 (by omega)).trans (by simp : _ = some (.int .i64 0))
            have hfr := (hfro2 (w.heap.size + 1) 0 (by omega)).trans (by simp : _ = false)
            clear hcell2 hfro2
            have hs2 := hs2h.out
            have hb3 : Below W2.heap.size W2 ((W2.alloc (.cells #[.int .i64 c.threads, .slice cA c.crosses.length cc, .slice pA c.pins.length pc] 36)).alloc (.cells #[.pointer (some ⟨w1.heap.size, 0, none⟩)] 85)) := below_box2 _ _ _
            have ht1 : ((W2.alloc (.cells #[.int .i64 c.threads, .slice cA c.crosses.length cc, .slice pA c.pins.length pc] 36)).alloc (.cells #[.pointer (some ⟨w1.heap.size, 0, none⟩)] 85)).cell? ⟨W2.heap.size, 1, none⟩ = some (.slice cA c.crosses.length cc) := by simp
            have ht2 : ((W2.alloc (.cells #[.int .i64 c.threads, .slice cA c.crosses.length cc, .slice pA c.pins.length pc] 36)).alloc (.cells #[.pointer (some ⟨w1.heap.size, 0, none⟩)] 85)).cell? ⟨W2.heap.size + 1, 0, none⟩ = some (.pointer (some ⟨w1.heap.size, 0, none⟩)) := by simp
            have hs3 : ((W2.alloc (.cells #[.int .i64 c.threads, .slice cA c.crosses.length cc, .slice pA c.pins.length pc] 36)).alloc (.cells #[.pointer (some ⟨w1.heap.size, 0, none⟩)] 85)).heap.size = W2.heap.size + 2 := by simp
            generalize ((W2.alloc (.cells #[.int .i64 c.threads, .slice cA c.crosses.length cc, .slice pA c.pins.length pc] 36)).alloc (.cells #[.pointer (some ⟨w1.heap.size, 0, none⟩)] 85)) = W3 at *
            have hr2 : w.heap.size + 1 < W2.heap.size := by omega
            have hB3 : Below w.heap.size w W3 := ((below_box2 w _ _).trans (hBW.out.mono (by omega))).trans (hb3.mono (by omega))
            have hcl3 := h.below hB3
            have HN2 := numbers_all HN.out
            refine wpIn_range_cross W2.heap.size (W2.heap.size + 1) w1.heap.size (w.heap.size + 1) cc cA c.crosses (iota 48)
              (fun W => W.cell? ⟨w.heap.size + 1, 0, none⟩ = some (.int .i64 0) ∧ W.frozen? ⟨w.heap.size + 1, 0, none⟩ = false ∧ Below w.heap.size w W ∧ W3.heap.size ≤ W.heap.size)
              (fun W => W.cell? ⟨w.heap.size + 1, 0, none⟩ = some (.int .i64 6) ∧ Below w.heap.size w W ∧ W3.heap.size ≤ W.heap.size)
              rfl rfl (by omega) (by omega) (by omega) (by omega) (by omega) (by omega) (by omega) (by omega) (by omega) ht1 ht2 hcl (by omega) hcl3.crosses ?hA (fun x hx => by have := HN2 x hx; have := S1.out; omega)
              (hL2.of_block (hb3.block _ (by omega))) ?hI ?hIl ?hIx ⟨(hb3.cell (p := ⟨w.heap.size + 1, 0, none⟩) hr2).trans hcr, (hb3.frozen (p := ⟨w.heap.size + 1, 0, none⟩) hr2).trans hfr, hB3, Nat.le_refl _⟩ ?hround ?hdone ?hstop
            case hA =>
              intro b off hne hbo
              rcases h.crosses with hq | ⟨b', off', hq, hlt, -⟩
              · exact absurd (by simpa using hq) hne
              · rw [hq] at hbo; cases hbo; omega
            case hI =>
              rintro W W' ⟨i1, i2, i3, i4⟩ hg'
              have e := hg'.block (w.heap.size + 1) (by omega) (by simp; omega)
              exact ⟨(World.cell?_of_block (w := W) (a := ⟨w.heap.size + 1, 0, none⟩) e).trans i1, (World.frozen?_of_block (w := W) (a := ⟨w.heap.size + 1, 0, none⟩) e).trans i2, i3.grown hg' (by omega) (fun k hk => by cases hk; omega), by have := hg'.size; omega⟩
            case hIl =>
              rintro W l o ⟨i1, i2, i3, i4⟩ hl
              have e : (W.putObj l o).heap[w.heap.size + 1]? = W.heap[w.heap.size + 1]? := World.putObj_heap_other (by omega)
              exact ⟨(World.cell?_of_block (w := W) (a := ⟨w.heap.size + 1, 0, none⟩) e).trans i1, (World.frozen?_of_block (w := W) (a := ⟨w.heap.size + 1, 0, none⟩) e).trans i2, i3.grown (grownBy_putObj' W l o) (by omega) (fun k hk => by cases hk; omega), by simp [World.putObj]; omega⟩
            case hIx =>
              rintro W l o ⟨i1, i3, i4⟩ hl
              have e : (W.putObj l o).heap[w.heap.size + 1]? = W.heap[w.heap.size + 1]? := World.putObj_heap_other (by omega)
              exact ⟨(World.cell?_of_block (w := W) (a := ⟨w.heap.size + 1, 0, none⟩) e).trans i1, i3.grown (grownBy_putObj' W l o) (by omega) (fun k hk => by cases hk; omega), by simp [World.putObj]; omega⟩
            case hround =>
              rintro l W x av bv hl1 hl2 ⟨i1, i2, i3, i4⟩
              unfold RoundB
              gi_wp2
              refine ⟨below_box2 W _ _, fun V hV hVs hVo => ?_⟩
              obtain ⟨v1, v2, v3, v4⟩ := hV
              have e0 := hVo W.heap.size (by omega)
              have e1 := hVo (W.heap.size + 1) (by omega)
              have x2 := (World.cell?_of_block (a := ⟨W.heap.size, 2, none⟩) e0).trans (by simp : _ = some (.int .i64 x.over))
              have x3 := (World.cell?_of_block (a := ⟨W.heap.size, 3, none⟩) e0).trans (by simp : _ = some (.int .i64 x.under))
              have l0 := (World.cell?_of_block (a := ⟨W.heap.size + 1, 0, none⟩) e1).trans (by simp : _ = some (.int .i64 av))
              have l1 := (World.cell?_of_block (a := ⟨W.heap.size + 1, 1, none⟩) e1).trans (by simp : _ = some (.int .i64 bv))
              clear hVo e0 e1 i1 i2 i3 hL2 hb3 hs3 ht1 ht2 hcl3 hcr hfr hl1 hl2
              have HM : Hid (meetB av bv x = ((decide (av = x.over) && decide (bv = x.under)) || (decide (bv = x.over) && decide (av = x.under)))) := rfl
              generalize x.over = xo at *
              generalize x.under = xu at *
              rcases Bool.eq_false_or_eq_true (decide (av = xo) && decide (bv = xu)) with q1 | q1
              · gi_wp2
                refine ⟨?_, (Below.refl _ _), v1, v2, v3, v4⟩
                simp only [HM.out, q1, Bool.true_or]
              · rcases Bool.eq_false_or_eq_true (decide (av = xu) && decide (bv = xo)) with q2 | q2
                · gi_wp2
                  refine ⟨?_, (Below.refl _ _), v1, v2, v3, v4⟩
                  rw [HM.out, q1, Bool.and_comm (decide (bv = xo)), q2]; rfl
                · gi_wp2
                  refine ⟨?_, by simp [World.setCell], fun k hk hne => Below.heap_setCell V _ _ k (by simpa using hne), World.cell?_setCell_same' _ _ _ (by rw [v1]; rfl), v3.setCell (p := ⟨w.heap.size + 1, 0, none⟩) (by simp) _, by simpa [World.setCell] using v4⟩
                  rw [HM.out, q1, Bool.and_comm (decide (bv = xo)), q2]; rfl
            case hdone =>
              rintro W hok ⟨v1, v2, v3, v4⟩ hD
              have hv : clothB c = 0 := by rw [clothB_ends (by have := S1.out; have := S2.out; have := S3.out; omega) HN.out, hok]; rfl
              have HD := Lib.hid hD
              clear hD
              gi_wp2
              have hD2 : (W.setCell ⟨w.heap.size + 1, 0, none⟩ (.int .i64 0)).heap[W3.heap.size]? = some (.deferred (some [])) := (Below.heap_setCell W _ _ _ (by simp; omega)).trans HD.out
              have hc2 : ((W.setCell ⟨w.heap.size + 1, 0, none⟩ (.int .i64 0)).putObj W3.heap.size (.deferred none)).cell? ⟨w.heap.size + 1, 0, none⟩ = some (.int .i64 0) :=
                (World.cell?_of_block (a := ⟨w.heap.size + 1, 0, none⟩) (World.putObj_heap_other (by simp; omega))).trans (World.cell?_setCell_same' _ _ _ (by rw [v1]; rfl))
              exact retM1 (v := .int .i64 0) rfl hD2 (by simp [results, Try.f23, go_sem, hc2]) ⟨by rw [hv], (v3.setCell (p := ⟨w.heap.size + 1, 0, none⟩) (by simp) _).grown (grownBy_putObj' _ _ _) (by simp [World.setCell]; omega) (fun k hk => by cases hk; omega)⟩
            case hstop =>
              rintro W hok ⟨v1, v3, v4⟩ hD
              have hv : clothB c = 6 := by rw [clothB_ends (by have := S1.out; have := S2.out; have := S3.out; omega) HN.out, hok]; rfl
              have hc2 : (W.putObj W3.heap.size (.deferred none)).cell? ⟨w.heap.size + 1, 0, none⟩ = some (.int .i64 6) :=
                (World.cell?_of_block (a := ⟨w.heap.size + 1, 0, none⟩) (World.putObj_heap_other (by simp; omega))).trans v1
              have HD := Lib.hid hD
              have HC := Lib.hid hc2
              clear hD hc2
              gi_wp2
              have hc2 := HC.out
              exact retM1 (v := .int .i64 6) rfl HD.out (by simp [results, Try.f23, go_sem, hc2]) ⟨by rw [hv], v3.grown (grownBy_putObj' _ _ _) (by omega) (fun k hk => by cases hk; omega)⟩
          · have HN := Lib.hid hn
            rw [hn]
            clear hn
            gi_wp2
            exact retM (v := .int .i64 2) rfl (by simp [results, Try.f23, go_sem, hcr]) ⟨by rw [show clothB c = 2 by unfold clothB; rw [if_neg (by have := S1.out; have := S2.out; have := S3.out; omega), if_pos HN.out]], (below_box2 w _ _).trans ((hbl.mono (by omega)).setCell (p := ⟨w.heap.size + 1, 0, none⟩) (by simp) _)⟩
end Go.Proofs.Ytegbbkmppphddaa
