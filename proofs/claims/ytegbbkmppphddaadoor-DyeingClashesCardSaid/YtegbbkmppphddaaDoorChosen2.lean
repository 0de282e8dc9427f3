/- The iterator over sets of wishes, whole; a range over it. -/
import Derived.Test.YtegbbkmppphddaaDoorChosen
import Derived.Laws.EntriesVeiled
set_option linter.unusedVariables false
set_option linter.unusedSimpArgs false
namespace Go.Proofs.YtegbbkmppphddaaDoor
open Go.RowKit
attribute [local go_sem] Oper.semAt_some

set_option maxHeartbeats 400000 in
theorem chosen_any {w : World} (many of' : Nat) : Calls Tryd.prog 27 #[.int .i64 many, .int .i64 of'] w fun e w' =>
    e = .returned (.func (.func 47) #[] #[.pointer (some ⟨w.heap.size + 1, 0, none⟩), .pointer (some ⟨w.heap.size, 0, none⟩)]) ∧ w' = (w.alloc (.cells #[.int .i64 many] 3)).alloc (.cells #[.int .i64 of'] 3) := by
  go_enter Tryd.func27, Tryd.ntmps27
  go_wp2
  go_ret
  exact ⟨rfl, rfl⟩

def ChPost (J : World → Prop) (Jx : List Nat → World → Prop) (r : Option (List Nat)) (e : Ending) (W' : World) : Prop := (∃ v, e = .returned v) ∧ ((r = none ∧ J W') ∨ ∃ x, r = some x ∧ Jx x W')

set_option maxRecDepth 100000 in
set_option maxHeartbeats 2000000 in
theorem chosen1_any (n l TO TM ra rb of' many : Nat) (W0 : World) (bad : List Nat → Bool) (J : World → Prop) (Jx : List Nat → World → Prop) (hof : of' ≤ 10) (hmany : many ≤ 10)
    (hTO : TO < W0.heap.size) (hra : ra < W0.heap.size) (hrb : rb < W0.heap.size) (hl : l < W0.heap.size) (n1 : TO ≠ ra) (n2 : TO ≠ rb) (n3 : TO ≠ l)
    (h1 : W0.cell? ⟨TO, 0, none⟩ = some (.int .i64 of')) (h2 : W0.cell? ⟨TM, 0, none⟩ = some (.int .i64 many)) (hTM : TM < W0.heap.size)
    (hJ : ∀ W W', J W → Below W.heap.size W W' → J W') (hJxd : ∀ e W, Jx e W → Jx e W.drew) (h0 : J W0)
    (hY : ∀ n W e, W0.heap.size ≤ W.heap.size → J W → Asc of' e → YieldAt Fence.wide n Tryd.prog l #[.int .u64 (setOf e : Nat)] W
      (fun e' W' => (bad e = false ∧ e' = .returned (.bool true) ∧ J W' ∧ Below W.heap.size W W') ∨
        (bad e = true ∧ e' = .returned (.bool false) ∧ Jx e W' ∧ W.heap.size ≤ W'.heap.size ∧ ∀ k, k < W.heap.size → k ≠ ra → k ≠ rb → k ≠ l → W'.heap[k]? = W.heap[k]?))) :
    CallsIn Fence.wide n Tryd.prog 47 #[.func (.yield l) #[] #[], .pointer (some ⟨TO, 0, none⟩), .pointer (some ⟨TM, 0, none⟩)] W0 (ChPost J Jx (clashG bad of' many [] 0)) := by
  have eB : Below W0.heap.size W0 ((W0.alloc (.cells #[.func (.yield l) #[] #[]] 80)).alloc (.cells #[.func (.func 48) #[] #[.pointer (some ⟨W0.heap.size, 0, none⟩), .pointer (some ⟨TO, 0, none⟩), .pointer (some ⟨W0.heap.size + 1, 0, none⟩)]] 81)) := below_box2 W0 _ _
  have eS : ((W0.alloc (.cells #[.func (.yield l) #[] #[]] 80)).alloc (.cells #[.func (.func 48) #[] #[.pointer (some ⟨W0.heap.size, 0, none⟩), .pointer (some ⟨TO, 0, none⟩), .pointer (some ⟨W0.heap.size + 1, 0, none⟩)]] 81)).heap.size = W0.heap.size + 2 := by simp
  have eA : AddAt ((W0.alloc (.cells #[.func (.yield l) #[] #[]] 80)).alloc (.cells #[.func (.func 48) #[] #[.pointer (some ⟨W0.heap.size, 0, none⟩), .pointer (some ⟨TO, 0, none⟩), .pointer (some ⟨W0.heap.size + 1, 0, none⟩)]] 81)) W0.heap.size TO (W0.heap.size + 1) l of' :=
    ⟨by simp, (eB.cell (p := ⟨TO, 0, none⟩) hTO).trans h1, by simp⟩
  have hmany2 := (eB.cell (p := ⟨TM, 0, none⟩) hTM).trans h2
  have hfin : ∀ n, CallsIn Fence.wide n Tryd.prog 48 #[.int .u64 (setOf [] : Nat), .int .i64 (0 : Nat), .int .i64 many, .pointer (some ⟨W0.heap.size, 0, none⟩), .pointer (some ⟨TO, 0, none⟩), .pointer (some ⟨W0.heap.size + 1, 0, none⟩)]
      ((W0.alloc (.cells #[.func (.yield l) #[] #[]] 80)).alloc (.cells #[.func (.func 48) #[] #[.pointer (some ⟨W0.heap.size, 0, none⟩), .pointer (some ⟨TO, 0, none⟩), .pointer (some ⟨W0.heap.size + 1, 0, none⟩)]] 81))
      (AddPost (fun W => J W ∧ AddAt W W0.heap.size TO (W0.heap.size + 1) l of' ∧ W0.heap.size + 2 ≤ W.heap.size) (fun e W => Jx e W ∧ AddAt W W0.heap.size TO (W0.heap.size + 1) l of') (clashG bad of' many [] 0)) := by
    intro n
    refine add_any bad _ _ hof (fun W h => h.2.1) (fun e W h => h.2) (fun W h => ⟨hJ _ _ h.1 (Below.refl _ _).drew, ⟨h.2.1.y, h.2.1.o, h.2.1.a⟩, h.2.2⟩) (fun e W h => ⟨hJxd _ _ h.1, ⟨h.2.y, h.2.o, h.2.a⟩⟩) ?_ many n _ [] 0 ⟨hJ _ _ h0 eB, eA, by omega⟩ ⟨List.Pairwise.nil, fun i h => by cases h⟩ (fun j h => by cases h) hmany
    rintro n W e ⟨hJW, hAW, hsW⟩ hasc
    obtain ⟨fn, tmps, assign, body, hy, hR⟩ := hY n W e (by omega) hJW hasc
    refine ⟨fn, tmps, assign, body, hy, hR.mono ?_⟩
    rintro e' W' (⟨a1, a2, a3, a4⟩ | ⟨a1, a2, a3, a4, a5⟩)
    · exact .inl ⟨a1, a2, a3, ⟨(a4.cell (p := ⟨W0.heap.size, 0, none⟩) (by show W0.heap.size < _; omega)).trans hAW.y, (a4.cell (p := ⟨TO, 0, none⟩) (by show TO < _; omega)).trans hAW.o, (a4.cell (p := ⟨W0.heap.size + 1, 0, none⟩) (by show W0.heap.size + 1 < _; omega)).trans hAW.a⟩, by have := a4.size; omega⟩
    · exact .inr ⟨a1, a2, a3, ⟨(World.cell?_of_block (a := ⟨W0.heap.size, 0, none⟩) (a5 W0.heap.size (by omega) (by omega) (by omega) (by omega))).trans hAW.y, (World.cell?_of_block (a := ⟨TO, 0, none⟩) (a5 TO (by omega) n1 n2 n3)).trans hAW.o, (World.cell?_of_block (a := ⟨W0.heap.size + 1, 0, none⟩) (a5 (W0.heap.size + 1) (by omega) (by omega) (by omega) (by omega))).trans hAW.a⟩⟩
  have HFIN := Lib.hid hfin
  have ea := eA.a
  clear hfin eB eA eS hY hJ hJxd
  refine callsIn_of_wp Tryd.func47 rfl trivial ?_ rfl
  simp only [Tryd.ntmps47, List.size_toArray, List.length_cons, List.length_nil, Nat.reduceAdd, Nat.reduceSub, Array.replicate_succ, Array.replicate_zero, List.push_toArray, List.append_toArray, List.nil_append, List.cons_append]
  gi_wp2
  refine ⟨trivial, fun h => (by cases h), (HFIN.out _).mono ?_⟩
  rintro e' W' hp
  have HP := Lib.hid hp
  clear hp
  rcases HP.out with ⟨hr, rfl, hJ', -⟩ | ⟨x, hr, rfl, hJ', -⟩
  · have HR := Lib.hid hr
    have HJ := Lib.hid hJ'
    clear hr hJ' HP
    gi_wp2
    go_end0
    exact ⟨⟨_, rfl⟩, .inl ⟨HR.out, HJ.out⟩⟩
  · have HR := Lib.hid hr
    have HJ := Lib.hid hJ'
    clear hr hJ' HP
    gi_wp2
    go_end0
    exact ⟨⟨_, rfl⟩, .inr ⟨x, HR.out, HJ.out⟩⟩
end Go.Proofs.YtegbbkmppphddaaDoor
