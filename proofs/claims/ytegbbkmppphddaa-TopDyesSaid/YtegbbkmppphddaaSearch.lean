/- The program's search: the closure that calls itself. -/
import Derived.Test.YtegbbkmppphddaaTz
set_option linter.unusedVariables false
set_option linter.unusedSimpArgs false
namespace Go.Proofs.Ytegbbkmppphddaa
open Go.RowKit

/-- All blocks but three lie as they lay. -/
structure Kept3 (O R b : Nat) (w w' : World) : Prop where
  os : w'.os = w.os
  tape : w'.tape = w.tape
  output : w'.output = w.output
  size : w.heap.size ≤ w'.heap.size
  block : ∀ k, k < w.heap.size → k ≠ O → k ≠ R → k ≠ b → w'.heap[k]? = w.heap[k]?
theorem Kept3.refl (O R b : Nat) (w : World) : Kept3 O R b w w := ⟨rfl, rfl, rfl, Nat.le_refl _, fun _ _ _ _ _ => rfl⟩
theorem Kept3.trans {O R b : Nat} {u v w : World} (h : Kept3 O R b u v) (k : Kept3 O R b v w) : Kept3 O R b u w :=
  ⟨k.os.trans h.os, k.tape.trans h.tape, k.output.trans h.output, Nat.le_trans h.size k.size, fun i hi a c d => (k.block i (Nat.lt_of_lt_of_le hi h.size) a c d).trans (h.block i hi a c d)⟩
theorem Kept3.below {O R b : Nat} {u v w : World} (h : Kept3 O R b u v) (k : Below v.heap.size v w) : Kept3 O R b u w :=
  h.trans ⟨k.os, k.tape, k.output, k.size, fun i hi _ _ _ => k.block i hi⟩
theorem Kept3.drew {O R b : Nat} {u v : World} (h : Kept3 O R b u v) : Kept3 O R b u v.drew := ⟨h.os, h.tape, h.output, h.size, h.block⟩
theorem Kept3.alloc {O R b : Nat} {u v : World} (h : Kept3 O R b u v) (o : Obj) : Kept3 O R b u (v.alloc o) := h.below (below_box o)
theorem Kept3.set {O R b : Nat} {u v : World} (h : Kept3 O R b u v) {a : Addr} (ha : a.block = O ∨ a.block = R ∨ a.block = b) (x : Value) : Kept3 O R b u (v.setCell a x) :=
  h.trans ⟨rfl, rfl, rfl, by simp [World.setCell], fun i _ h1 h2 h3 => Below.heap_setCell v a x i (by rcases ha with e | e | e <;> rw [e] <;> assumption)⟩
theorem Kept3.grown {O R b : Nat} {u v w : World} {row : Option Nat} (h : Kept3 O R b u v) (hg : v.grownBy w row) (hr : ∀ k, row = some k → k = O ∨ k = R ∨ k = b) : Kept3 O R b u w :=
  h.trans ⟨hg.os, hg.tape, hg.output, hg.size, fun i hi h1 h2 h3 => hg.block i hi (fun e => by rcases hr i e.symm with e | e | e <;> contradiction)⟩

/-- The search as it lies in memory. -/
structure SearchAt (w : World) (O R PB FB b : Nat) (l : List Int) (p : Prob) : Prop where
  out : w.cell? ⟨O, 0, none⟩ = some (.slice (some ⟨R, 0, none⟩) l.length p.many)
  outF : w.frozen? ⟨O, 0, none⟩ = false
  row : w.ownsRow R 3 1 (.slice (some ⟨R, 0, none⟩) l.length p.many) l.length (ints l)
  pb : w.cell? ⟨PB, 0, none⟩ = some (.pointer (some ⟨b, 0, none⟩))
  fb : w.cell? ⟨FB, 0, none⟩ = some (.func (.func 38) #[] #[.pointer (some ⟨O, 0, none⟩), .pointer (some ⟨PB, 0, none⟩), .pointer (some ⟨FB, 0, none⟩)])
  prob : ProbAt w b p
structure Apart (O R PB FB b : Nat) : Prop where
  or : O ≠ R
  op : O ≠ PB
  of : O ≠ FB
  ob : O ≠ b
  rp : R ≠ PB
  rf : R ≠ FB
  rb : R ≠ b
  pb : PB ≠ b
  fb : FB ≠ b

theorem cell_lt {w : World} {b o : Nat} {v : Value} (h : w.cell? ⟨b, o, none⟩ = some v) : b < w.heap.size := by
  unfold World.cell? at h
  rcases Nat.lt_or_ge b w.heap.size with hlt | hge
  · exact hlt
  · simp [Array.getElem?_eq_none hge] at h
theorem SearchAt.of_blocks {w w' : World} {O R PB FB b : Nat} {l : List Int} {p : Prob} (h : SearchAt w O R PB FB b l p)
    (e1 : w'.heap[O]? = w.heap[O]?) (e2 : w'.heap[R]? = w.heap[R]?) (e3 : w'.heap[PB]? = w.heap[PB]?) (e4 : w'.heap[FB]? = w.heap[FB]?) (e5 : w'.heap[b]? = w.heap[b]?) : SearchAt w' O R PB FB b l p :=
  ⟨(World.cell?_of_block (a := ⟨O, 0, none⟩) e1).trans h.out, (World.frozen?_of_block (a := ⟨O, 0, none⟩) e1).trans h.outF, by
    obtain ⟨hl, hr⟩ := h.row
    refine ⟨hl, ?_⟩
    rcases hr with hr | ⟨g, cap, cur, hv, hb, hg, rest⟩
    · exact .inl hr
    · have : g = R := by simp only [Value.slice.injEq, Option.some.injEq, Addr.mk.injEq] at hv; exact hv.1.1.symm
      exact .inr ⟨g, cap, cur, hv, hb, by rw [this]; rw [this] at hg; exact e2.trans hg, rest⟩,
   (World.cell?_of_block (a := ⟨PB, 0, none⟩) e3).trans h.pb, (World.cell?_of_block (a := ⟨FB, 0, none⟩) e4).trans h.fb, h.prob.of_block e5⟩
theorem SearchAt.row_lt {w : World} {O R PB FB b : Nat} {l : List Int} {p : Prob} (h : SearchAt w O R PB FB b l p) : R < w.heap.size := by
  have := h.row.lt R rfl
  exact this.2
theorem SearchAt.below {w w' : World} {O R PB FB b : Nat} {l : List Int} {p : Prob} (h : SearchAt w O R PB FB b l p) (hb : Below w.heap.size w w') : SearchAt w' O R PB FB b l p :=
  h.of_blocks (hb.block _ (cell_lt h.out)) (hb.block _ h.row_lt) (hb.block _ (cell_lt h.pb)) (hb.block _ (cell_lt h.fb)) (hb.block _ h.prob.lt)
theorem SearchAt.setProb {w w' : World} {O R PB FB b : Nat} {l : List Int} {p p' : Prob} (hA : Apart O R PB FB b) (h : SearchAt w O R PB FB b l p) (hm : p'.many = p.many)
    (hk : ∀ k, k ≠ b → w'.heap[k]? = w.heap[k]?) (hp : ProbAt w' b p') : SearchAt w' O R PB FB b l p' := by
  have e1 := hk O hA.ob
  have e2 := hk R hA.rb
  have e3 := hk PB hA.pb
  have e4 := hk FB hA.fb
  refine ⟨by rw [hm]; exact (World.cell?_of_block (a := ⟨O, 0, none⟩) e1).trans h.out, (World.frozen?_of_block (a := ⟨O, 0, none⟩) e1).trans h.outF, ?_,
    (World.cell?_of_block (a := ⟨PB, 0, none⟩) e3).trans h.pb, (World.cell?_of_block (a := ⟨FB, 0, none⟩) e4).trans h.fb, hp⟩
  rw [hm]
  obtain ⟨hl, hr⟩ := h.row
  refine ⟨hl, ?_⟩
  rcases hr with hr | ⟨g, cap, cur, hv, hb, hg, rest⟩
  · exact .inl hr
  · have : g = R := by simp only [Value.slice.injEq, Option.some.injEq, Addr.mk.injEq] at hv; exact hv.1.1.symm
    exact .inr ⟨g, cap, cur, hv, hb, by rw [this]; rw [this] at hg; exact e2.trans hg, rest⟩

/-- What a search returns. -/
def SPost (t : Task) (O R PB FB b : Nat) (l : List Int) (p : Prob) (m : Nat) (w : World) (e : Ending) (w' : World) : Prop :=
  Kept3 O R b w w' ∧
  ((∃ r p', e = .returned (.bool true) ∧ solveB t m l = some r ∧ SearchAt w' O R PB FB b r p' ∧ p'.many = p.many) ∨
   (e = .returned (.bool false) ∧ solveB t m l = none ∧ SearchAt w' O R PB FB b l p))

theorem SPost.mono_world {t : Task} {O R PB FB b : Nat} {l : List Int} {p : Prob} {m : Nat} {w u : World} {e : Ending} {w' : World} (h : SPost t O R PB FB b l p m u e w') (k : Kept3 O R b w u) : SPost t O R PB FB b l p m w e w' :=
  ⟨k.trans h.1, h.2⟩

set_option maxRecDepth 100000 in
set_option maxHeartbeats 4000000 in
theorem search_end {t : Task} (hk : t.ok) {w : World} {O R PB FB b : Nat} {l : List Int} {p : Prob} (hP : Poss t l) (hC : Cols l) (h : SearchAt w O R PB FB b l p) (hm : l.length = p.many) (h16 : p.many ≤ 16) :
    Calls Try.prog 38 #[.pointer (some ⟨O, 0, none⟩), .pointer (some ⟨PB, 0, none⟩), .pointer (some ⟨FB, 0, none⟩)] w (SPost t O R PB FB b l p 0 w) := by
  have h1 := h.out
  have h2 := h.pb
  have h3 := h.prob.many
  have hs : Hid (solveB t 0 l = some l) := by unfold Hid solveB; rw [if_pos ((poss_iff hk hC).2 hP)]
  rw [hm] at h1
  go_enter Try.func38, Try.ntmps38
  go_wp2
  go_ret
  exact ⟨Kept3.refl .., .inl ⟨l, p, rfl, hs.out, h, rfl⟩⟩

set_option maxRecDepth 100000 in
set_option maxHeartbeats 4000000 in
theorem search_no {t : Task} (hk : t.ok) {p0 : Prob} (hM : Matches p0 t) {w : World} {O R PB FB b : Nat} {l : List Int} {p : Prob} (hS : State p0 l p) (hC : Cols l) (h : SearchAt w O R PB FB b l p) (hm : l.length < p.many)
    (hE : enoughB p l.length = false) :
    Calls Try.prog 38 #[.pointer (some ⟨O, 0, none⟩), .pointer (some ⟨PB, 0, none⟩), .pointer (some ⟨FB, 0, none⟩)] w (SPost t O R PB FB b l p (p.many - l.length) w) := by
  have h1 := h.out
  have h2 := h.pb
  have h3 := h.prob.many
  have h16 := hS.wf.many
  have hne : ((l.length : Int) == (p.many : Int)) = false := by simp; omega
  have hs := Lib.hid (enough_no hk hM hC hS (by omega) hE)
  have HE := Lib.hid hE
  clear hE
  go_enter Try.func38, Try.ntmps38
  go_wp2_with (go_at_call 39; refine (enough_any h.prob hS.wf hm).mono ?_; rintro e w1 ⟨rfl, hb⟩; rw [HE.out])
  go_ret
  exact ⟨(Kept3.refl ..).below hb, .inr ⟨rfl, hs.out, h.below hb⟩⟩
end Go.Proofs.Ytegbbkmppphddaa
