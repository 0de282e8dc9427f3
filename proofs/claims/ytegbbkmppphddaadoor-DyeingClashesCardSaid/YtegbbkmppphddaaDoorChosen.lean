/- The iterator over sets of wishes, walked inside a fence, whatever its round. -/
import Derived.Test.YtegbbkmppphddaaDoorCombos
import Derived.Test.YtegbbkmppphddaaDoorClothA
import Derived.Test.YtegbbkmppphddaaDoorMadeW
set_option linter.unusedVariables false
set_option linter.unusedSimpArgs false
namespace Go.Proofs.YtegbbkmppphddaaDoor
open Go.RowKit
attribute [local go_sem] Oper.semAt_some

/-- The first of the lists that begin so for which a round stops. -/
def clashG (bad : List Nat → Bool) (n m : Nat) (l : List Nat) (f : Nat) : Option (List Nat) := (combos n m f).findSome? fun e => if bad (l ++ e) then some (l ++ e) else none
theorem clashG_zero (bad : List Nat → Bool) (n : Nat) (l : List Nat) (f : Nat) : clashG bad n 0 l f = if bad l then some l else none := by simp [clashG, combos]
theorem clashG_succ (bad : List Nat → Bool) (n m : Nat) (l : List Nat) (f : Nat) : clashG bad n (m + 1) l f = (List.range' f (n - f)).findSome? fun i => clashG bad n m (l ++ [i]) (i + 1) := by
  unfold clashG
  rw [combos, findSome_flat]
  congr 1
  funext i
  rw [List.findSome?_map]
  congr 1
  funext e
  simp
theorem find_range_cons {α : Type} {g : Nat → Option α} {n k : Nat} (hk : k < n) : (List.range' k (n - k)).findSome? g = match g k with | some x => some x | none => (List.range' (k + 1) (n - (k + 1))).findSome? g := by
  rw [show n - k = (n - (k + 1)) + 1 by omega, List.range'_succ, List.findSome?_cons]
  cases g k <;> rfl

/-- A list that a set stands for. -/
structure Asc (n : Nat) (e : List Nat) : Prop where
  asc : e.Pairwise (· < ·)
  lt : ∀ i ∈ e, i < n
theorem Asc.snoc {n : Nat} {e : List Nat} (h : Asc n e) {i : Nat} (hi : i < n) (hl : ∀ j ∈ e, j < i) : Asc n (e ++ [i]) :=
  ⟨List.pairwise_append.2 ⟨h.asc, by simp, fun a ha b hb => by simp at hb; subst hb; exact hl a ha⟩, fun j hj => by
    rcases List.mem_append.1 hj with hj | hj
    · exact h.lt j hj
    · simp at hj; omega⟩
theorem Asc.lt1024 {n : Nat} {e : List Nat} (h : Asc n e) (hn : n ≤ 10) : setOf e < 1024 := setOf_lt (n := 10) fun i hi => by have := h.lt i hi; omega

/-- The iterator's own variables. -/
structure AddAt (W : World) (YB TO AB l of' : Nat) : Prop where
  y : W.cell? ⟨YB, 0, none⟩ = some (.func (.yield l) #[] #[])
  o : W.cell? ⟨TO, 0, none⟩ = some (.int .i64 of')
  a : W.cell? ⟨AB, 0, none⟩ = some (.func (.func 48) #[] #[.pointer (some ⟨YB, 0, none⟩), .pointer (some ⟨TO, 0, none⟩), .pointer (some ⟨AB, 0, none⟩)])

def AddPost (J : World → Prop) (Jx : List Nat → World → Prop) (r : Option (List Nat)) (e : Ending) (W' : World) : Prop :=
  (r = none ∧ e = .returned (.bool true) ∧ J W') ∨ ∃ x, r = some x ∧ e = .returned (.bool false) ∧ Jx x W'

theorem addPost_none {J : World → Prop} {Jx : List Nat → World → Prop} {e : Ending} {W : World} (h : AddPost J Jx none e W) : e = .returned (.bool true) ∧ J W := by
  rcases h with ⟨-, h1, h2⟩ | ⟨x, h, -⟩
  · exact ⟨h1, h2⟩
  · cases h
theorem addPost_some {J : World → Prop} {Jx : List Nat → World → Prop} {x : List Nat} {e : Ending} {W : World} (h : AddPost J Jx (some x) e W) : e = .returned (.bool false) ∧ Jx x W := by
  rcases h with ⟨h, -⟩ | ⟨y, h, h1, h2⟩
  · cases h
  · cases h; exact ⟨h1, h2⟩
theorem or_shl10 (v o : Nat) (hv : v < 1024) (ho : o < 10) : bits .or .u64 (v : Int) (IntKind.u64.wrap (2 ^ o)) = ((v ||| 2 ^ o : Nat) : Int) := or_shl v o (by omega) (by omega)

set_option maxRecDepth 100000 in
set_option maxHeartbeats 2000000 in
theorem add_any {YB TO AB l of' : Nat} (bad : List Nat → Bool) (J : World → Prop) (Jx : List Nat → World → Prop) (hof : of' ≤ 10)
    (hJa : ∀ W, J W → AddAt W YB TO AB l of') (hJx : ∀ e W, Jx e W → AddAt W YB TO AB l of') (hJd : ∀ W, J W → J W.drew) (hJxd : ∀ e W, Jx e W → Jx e W.drew)
    (hY : ∀ n W e, J W → Asc of' e → YieldAt Fence.wide n Tryd.prog l #[.int .u64 (setOf e : Nat)] W (fun e' W' => (bad e = false ∧ e' = .returned (.bool true) ∧ J W') ∨ (bad e = true ∧ e' = .returned (.bool false) ∧ Jx e W'))) :
    ∀ (m n : Nat) (W : World) (e : List Nat) (f : Nat), J W → Asc of' e → (∀ j ∈ e, j < f) → m ≤ 10 →
      CallsIn Fence.wide n Tryd.prog 48 #[.int .u64 (setOf e : Nat), .int .i64 f, .int .i64 m, .pointer (some ⟨YB, 0, none⟩), .pointer (some ⟨TO, 0, none⟩), .pointer (some ⟨AB, 0, none⟩)] W (AddPost J Jx (clashG bad of' m e f)) := by
  have HY := Lib.hid hY
  have HJA := Lib.hid hJa
  have HJX := Lib.hid hJx
  clear hY hJa hJx
  intro m
  induction m with
  | zero =>
    intro n W e f h0 hasc hlt _
    obtain ⟨y, o, a⟩ := HJA.out W h0
    obtain ⟨fn, tmps, assign, body, hy, hRY⟩ := HY.out (n - 1) W e h0 hasc
    have HZ := Lib.hid (clashG_zero bad of' e f)
    refine callsIn_of_wp Tryd.func48 rfl trivial ?_ rfl
    simp only [Tryd.ntmps48, List.size_toArray, List.length_cons, List.length_nil, Nat.reduceAdd, Nat.reduceSub, Array.replicate_succ, Array.replicate_zero, List.push_toArray, List.append_toArray, List.nil_append, List.cons_append]
    gi_wp2
    refine ⟨fun h => (by cases h), hRY.mono ?_⟩
    rintro e' W' hpost
    cases hb : bad e with
    | false =>
      rw [hb] at hpost
      rcases hpost with ⟨-, rfl, hJ⟩ | ⟨h, -⟩
      · have HB := Lib.hid hb
        have HJ := Lib.hid hJ
        clear hb hJ
        gi_wp2
        refine bodyPost_ret (by simp [results, Tryd.f48, go_sem]) rfl (.inl ⟨by rw [HZ.out, HB.out]; rfl, rfl, HJ.out⟩)
      · cases h
    | true =>
      rw [hb] at hpost
      rcases hpost with ⟨h, -⟩ | ⟨-, rfl, hJ⟩
      · cases h
      · have HB := Lib.hid hb
        have HJ := Lib.hid hJ
        clear hb hJ
        gi_wp2
        refine bodyPost_ret (by simp [results, Tryd.f48, go_sem]) rfl (.inr ⟨e, by rw [HZ.out, HB.out]; rfl, rfl, HJ.out⟩)
  | succ m ih =>
    intro n W e f h0 hasc hlt hm
    have IH := Lib.hid ih
    clear ih
    obtain ⟨y, o, a⟩ := HJA.out W h0
    have HZ := Lib.hid (clashG_succ bad of' m e f)
    have HASC := Lib.hid hasc
    have HLT := Lib.hid hlt
    clear hasc hlt
    obtain ⟨M, hM⟩ : ∃ M, M = m + 1 := ⟨_, rfl⟩
    rw [← hM] at HZ hm ⊢
    have hne : ((M : Int) == 0) = false := by simp; omega
    have HMM := Lib.hid hM
    clear hM
    refine callsIn_of_wp Tryd.func48 rfl trivial ?_ rfl
    simp only [Tryd.ntmps48, List.size_toArray, List.length_cons, List.length_nil, Nat.reduceAdd, Nat.reduceSub, Array.replicate_succ, Array.replicate_zero, List.push_toArray, List.append_toArray, List.nil_append, List.cons_append]
    gi_wp2
    clear y o a
    gi_loopw [10] (fun i wr => ∃ k : Nat, f ≤ k ∧ i = .int .i64 k ∧ J wr ∧ clashG bad of' M e f = (List.range' k (of' - k)).findSome? fun i => clashG bad of' m (e ++ [i]) (i + 1)) (fun i _ => of' - (intOf i).toNat)
    case atStart => exact ⟨f, Nat.le_refl _, rfl, h0, HZ.out⟩
    case round =>
      clear h0
      obtain ⟨k, hk, rfl, hJ, hE⟩ := hrel
      obtain ⟨y, o, a⟩ := HJA.out wr hJ
      have HE := Lib.hid hE
      have HJ := Lib.hid hJ
      clear hE hJ
      by_cases hlt : k < of'
      · have hs1 := HASC.out.lt1024 hof
        have hsh := or_shl10 (setOf e) k hs1 (by omega)
        rw [← setOf_snoc] at hsh
        have hasc2 : Asc of' (e ++ [k]) := HASC.out.snoc hlt (fun j hj => by have := HLT.out j hj; omega)
        have hlt2 : ∀ j ∈ e ++ [k], j < k + 1 := fun j hj => by
          rcases List.mem_append.1 hj with hj | hj
          · have := HLT.out j hj; omega
          · simp at hj; omega
        have hcall := IH.out (n - 1) wr.drew (e ++ [k]) (k + 1) (hJd _ HJ.out) hasc2 hlt2 (by have := HMM.out; omega)
        have hw1 : IntKind.i64.wrap ((k : Int) + 1) = (k : Int) + 1 := IntWalk.i64_in _ (by omega)
        have hw2 : IntKind.i64.wrap ((M : Int) - 1) = (m : Int) := by have := HMM.out; rw [IntWalk.i64_in _ (by omega)]; omega
        rw [show (((k + 1 : Nat)) : Int) = (k : Int) + 1 from rfl] at hcall
        have hw3 : (0 : Int) ≤ (k : Int) := by omega
        have HC := find_range_cons (g := fun i => clashG bad of' m (e ++ [i]) (i + 1)) hlt
        generalize setOf (e ++ [k]) = v at *
        generalize hr : clashG bad of' m (e ++ [k]) (k + 1) = r at *
        have HCALL := Lib.hid hcall
        have HC' := Lib.hid HC
        have HR := Lib.hid hr
        clear hcall HC hr hasc2 hlt2
        have hlti : (k : Int) < (of' : Int) := by omega
        have hS0 : wr.drew.cell? ⟨AB, 0, none⟩ = some (.func (.func 48) #[] #[.pointer (some ⟨YB, 0, none⟩), .pointer (some ⟨TO, 0, none⟩), .pointer (some ⟨AB, 0, none⟩)]) := a
        cases r with
        | none =>
          gi_wp2
          refine wpIn_region_S (S := (fun w => w.cell? ⟨AB, 0, none⟩ = some (.func (.func 48) #[] #[.pointer (some ⟨YB, 0, none⟩), .pointer (some ⟨TO, 0, none⟩), .pointer (some ⟨AB, 0, none⟩)]))) (by kernel_rfl) ?_
          refine anyS_take (i := 0) (oi := { dst := some 22, op := Op.load 81 (Operand.tmp 5), type := 81, pos := "dyeing.go:169", after := #[], guard := none }) (v := ?_) rfl rfl (by kernel_rfl) (by kernel_rfl) (by kernel_rfl) (fun _ _ _ h => h) ⟨(fun w f hf => by simp [Oper.about] at hf), .inl ⟨by rfl, ?_⟩⟩ hS0 ?_
          rotate_left
          · intro w hSw; (try dsimp only at hSw); go_simp; try (with_reducible rfl)
          try simp only [Act.put, List.setIfInBounds_toArray, List.set_cons_zero, List.set_cons_succ]
          refine anyS_take (i := 1) (oi := { dst := some 23, op := Op.move (Operand.tmp 0), type := 59, pos := "dyeing.go:169", after := #[], guard := none }) (v := ?_) rfl rfl (by kernel_rfl) (by kernel_rfl) (by kernel_rfl) (fun _ _ _ h => h) ⟨(fun w f hf => by simp [Oper.about] at hf), .inl ⟨by rfl, ?_⟩⟩ hS0 ?_
          rotate_left
          · intro w hSw; (try dsimp only at hSw); go_simp; try (with_reducible rfl)
          try simp only [Act.put, List.setIfInBounds_toArray, List.set_cons_zero, List.set_cons_succ]
          refine anyS_take (i := 2) (oi := { dst := some 24, op := Op.move (Operand.tmp 10), type := 3, pos := "dyeing.go:169", after := #[], guard := none }) (v := ?_) rfl rfl (by kernel_rfl) (by kernel_rfl) (by kernel_rfl) (fun _ _ _ h => h) ⟨(fun w f hf => by simp [Oper.about] at hf), .inl ⟨by rfl, ?_⟩⟩ hS0 ?_
          rotate_left
          · intro w hSw; (try dsimp only at hSw); go_simp; try (with_reducible rfl)
          try simp only [Act.put, List.setIfInBounds_toArray, List.set_cons_zero, List.set_cons_succ]
          refine anyS_take (i := 3) (oi := { dst := some 25, op := Op.binOp BinOp.shl 59 (Operand.const (Value.int IntKind.u64 1)) (Operand.tmp 24) 3, type := 59, pos := "dyeing.go:169", after := #[{ on := 2, ground := Ground.data }], guard := none }) (v := ?_) rfl rfl (by kernel_rfl) (by kernel_rfl) (by kernel_rfl) (fun _ _ _ h => h) ⟨(fun w f hf => by simp [Oper.about] at hf), .inl ⟨by rfl, ?_⟩⟩ hS0 ?_
          rotate_left
          · intro w hSw; (try dsimp only at hSw); go_simp; try (with_reducible rfl)
          try simp only [Act.put, List.setIfInBounds_toArray, List.set_cons_zero, List.set_cons_succ]
          refine anyS_take (i := 4) (oi := { dst := some 26, op := Op.binOp BinOp.or 59 (Operand.tmp 23) (Operand.tmp 25) 59, type := 59, pos := "dyeing.go:169", after := #[{ on := 1, ground := Ground.data }, { on := 3, ground := Ground.data }], guard := none }) (v := ?_) rfl rfl (by kernel_rfl) (by kernel_rfl) (by kernel_rfl) (fun _ _ _ h => h) ⟨(fun w f hf => by simp [Oper.about] at hf), .inl ⟨by rfl, ?_⟩⟩ hS0 ?_
          rotate_left
          · intro w hSw; (try dsimp only at hSw); go_simp; try (with_reducible rfl)
          try simp only [Act.put, List.setIfInBounds_toArray, List.set_cons_zero, List.set_cons_succ]
          refine anyS_take (i := 5) (oi := { dst := some 27, op := Op.move (Operand.tmp 10), type := 3, pos := "dyeing.go:169", after := #[], guard := none }) (v := ?_) rfl rfl (by kernel_rfl) (by kernel_rfl) (by kernel_rfl) (fun _ _ _ h => h) ⟨(fun w f hf => by simp [Oper.about] at hf), .inl ⟨by rfl, ?_⟩⟩ hS0 ?_
          rotate_left
          · intro w hSw; (try dsimp only at hSw); go_simp; try (with_reducible rfl)
          try simp only [Act.put, List.setIfInBounds_toArray, List.set_cons_zero, List.set_cons_succ]
          refine anyS_take (i := 6) (oi := { dst := some 28, op := Op.binOp BinOp.add 3 (Operand.tmp 27) (Operand.const (Value.int IntKind.i64 1)) 3, type := 3, pos := "dyeing.go:169", after := #[{ on := 5, ground := Ground.data }], guard := none }) (v := ?_) rfl rfl (by kernel_rfl) (by kernel_rfl) (by kernel_rfl) (fun _ _ _ h => h) ⟨(fun w f hf => by simp [Oper.about] at hf), .inl ⟨by rfl, ?_⟩⟩ hS0 ?_
          rotate_left
          · intro w hSw; (try dsimp only at hSw); go_simp; try (with_reducible rfl)
          try simp only [Act.put, List.setIfInBounds_toArray, List.set_cons_zero, List.set_cons_succ]
          refine anyS_take (i := 7) (oi := { dst := some 29, op := Op.move (Operand.tmp 2), type := 3, pos := "dyeing.go:169", after := #[], guard := none }) (v := ?_) rfl rfl (by kernel_rfl) (by kernel_rfl) (by kernel_rfl) (fun _ _ _ h => h) ⟨(fun w f hf => by simp [Oper.about] at hf), .inl ⟨by rfl, ?_⟩⟩ hS0 ?_
          rotate_left
          · intro w hSw; (try dsimp only at hSw); go_simp; try (with_reducible rfl)
          try simp only [Act.put, List.setIfInBounds_toArray, List.set_cons_zero, List.set_cons_succ]
          refine anyS_take (i := 8) (oi := { dst := some 30, op := Op.binOp BinOp.sub 3 (Operand.tmp 29) (Operand.const (Value.int IntKind.i64 1)) 3, type := 3, pos := "dyeing.go:169", after := #[{ on := 7, ground := Ground.data }], guard := none }) (v := ?_) rfl rfl (by kernel_rfl) (by kernel_rfl) (by kernel_rfl) (fun _ _ _ h => h) ⟨(fun w f hf => by simp [Oper.about] at hf), .inl ⟨by rfl, ?_⟩⟩ hS0 ?_
          rotate_left
          · intro w hSw; (try dsimp only at hSw); go_simp; try (with_reducible rfl)
          try simp only [Act.put, List.setIfInBounds_toArray, List.set_cons_zero, List.set_cons_succ]
          refine anyS_one (i := 9) (o := { dst := some 31, op := Op.call { callee := Callee.value (Operand.tmp 22), args := #[Operand.tmp 26, Operand.tmp 28, Operand.tmp 30], argTypes := #[59, 3, 3] }, type := 4, pos := "dyeing.go:169", after := #[{ on := 0, ground := Ground.data }, { on := 4, ground := Ground.data }, { on := 6, ground := Ground.data }, { on := 8, ground := Ground.data }], guard := none }) (by kernel_rfl) rfl (by rfl) (fun K hK => ?_)
          go_simp
          refine ⟨trivial, fun h => (by cases h), HCALL.out.mono ?_⟩
          rintro e' W' hpost
          obtain ⟨rfl, hJ2⟩ := addPost_none hpost
          have HJ2 := Lib.hid hJ2
          clear hJ2 hpost
          have hS1 := (HJA.out _ HJ2.out).a
          refine hK _ _ hS1 ?_
          clear hK K
          try simp only [Act.put, List.setIfInBounds_toArray, List.set_cons_zero, List.set_cons_succ]
          refine anyS_take (i := 10) (oi := { dst := some 32, op := Op.unOp UnOp.not 4 (Operand.tmp 31), type := 4, pos := "dyeing.go:169", after := #[{ on := 9, ground := Ground.data }], guard := none }) (v := ?_) rfl rfl (by kernel_rfl) (by kernel_rfl) (by kernel_rfl) (fun _ _ _ h => h) ⟨(fun w f hf => by simp [Oper.about] at hf), .inl ⟨by rfl, ?_⟩⟩ (by assumption) ?_
          rotate_left
          · intro w hSw; (try dsimp only at hSw); go_simp; try (with_reducible rfl)
          try simp only [Act.put, List.setIfInBounds_toArray, List.set_cons_zero, List.set_cons_succ]
          refine anyS_done (by kernel_rfl) ?_ _
          clear hS1
          gi_wp2
          go_roundw
          case rel => exact ⟨k + 1, by omega, by go_num, HJ2.out, by rw [HE.out, HC'.out]⟩
          case measure => simp [intOf]; omega
        | some x =>
          gi_wp2
          refine wpIn_region_S (S := (fun w => w.cell? ⟨AB, 0, none⟩ = some (.func (.func 48) #[] #[.pointer (some ⟨YB, 0, none⟩), .pointer (some ⟨TO, 0, none⟩), .pointer (some ⟨AB, 0, none⟩)]))) (by kernel_rfl) ?_
          refine anyS_take (i := 0) (oi := { dst := some 22, op := Op.load 81 (Operand.tmp 5), type := 81, pos := "dyeing.go:169", after := #[], guard := none }) (v := ?_) rfl rfl (by kernel_rfl) (by kernel_rfl) (by kernel_rfl) (fun _ _ _ h => h) ⟨(fun w f hf => by simp [Oper.about] at hf), .inl ⟨by rfl, ?_⟩⟩ hS0 ?_
          rotate_left
          · intro w hSw; (try dsimp only at hSw); go_simp; try (with_reducible rfl)
          try simp only [Act.put, List.setIfInBounds_toArray, List.set_cons_zero, List.set_cons_succ]
          refine anyS_take (i := 1) (oi := { dst := some 23, op := Op.move (Operand.tmp 0), type := 59, pos := "dyeing.go:169", after := #[], guard := none }) (v := ?_) rfl rfl (by kernel_rfl) (by kernel_rfl) (by kernel_rfl) (fun _ _ _ h => h) ⟨(fun w f hf => by simp [Oper.about] at hf), .inl ⟨by rfl, ?_⟩⟩ hS0 ?_
          rotate_left
          · intro w hSw; (try dsimp only at hSw); go_simp; try (with_reducible rfl)
          try simp only [Act.put, List.setIfInBounds_toArray, List.set_cons_zero, List.set_cons_succ]
          refine anyS_take (i := 2) (oi := { dst := some 24, op := Op.move (Operand.tmp 10), type := 3, pos := "dyeing.go:169", after := #[], guard := none }) (v := ?_) rfl rfl (by kernel_rfl) (by kernel_rfl) (by kernel_rfl) (fun _ _ _ h => h) ⟨(fun w f hf => by simp [Oper.about] at hf), .inl ⟨by rfl, ?_⟩⟩ hS0 ?_
          rotate_left
          · intro w hSw; (try dsimp only at hSw); go_simp; try (with_reducible rfl)
          try simp only [Act.put, List.setIfInBounds_toArray, List.set_cons_zero, List.set_cons_succ]
          refine anyS_take (i := 3) (oi := { dst := some 25, op := Op.binOp BinOp.shl 59 (Operand.const (Value.int IntKind.u64 1)) (Operand.tmp 24) 3, type := 59, pos := "dyeing.go:169", after := #[{ on := 2, ground := Ground.data }], guard := none }) (v := ?_) rfl rfl (by kernel_rfl) (by kernel_rfl) (by kernel_rfl) (fun _ _ _ h => h) ⟨(fun w f hf => by simp [Oper.about] at hf), .inl ⟨by rfl, ?_⟩⟩ hS0 ?_
          rotate_left
          · intro w hSw; (try dsimp only at hSw); go_simp; try (with_reducible rfl)
          try simp only [Act.put, List.setIfInBounds_toArray, List.set_cons_zero, List.set_cons_succ]
          refine anyS_take (i := 4) (oi := { dst := some 26, op := Op.binOp BinOp.or 59 (Operand.tmp 23) (Operand.tmp 25) 59, type := 59, pos := "dyeing.go:169", after := #[{ on := 1, ground := Ground.data }, { on := 3, ground := Ground.data }], guard := none }) (v := ?_) rfl rfl (by kernel_rfl) (by kernel_rfl) (by kernel_rfl) (fun _ _ _ h => h) ⟨(fun w f hf => by simp [Oper.about] at hf), .inl ⟨by rfl, ?_⟩⟩ hS0 ?_
          rotate_left
          · intro w hSw; (try dsimp only at hSw); go_simp; try (with_reducible rfl)
          try simp only [Act.put, List.setIfInBounds_toArray, List.set_cons_zero, List.set_cons_succ]
          refine anyS_take (i := 5) (oi := { dst := some 27, op := Op.move (Operand.tmp 10), type := 3, pos := "dyeing.go:169", after := #[], guard := none }) (v := ?_) rfl rfl (by kernel_rfl) (by kernel_rfl) (by kernel_rfl) (fun _ _ _ h => h) ⟨(fun w f hf => by simp [Oper.about] at hf), .inl ⟨by rfl, ?_⟩⟩ hS0 ?_
          rotate_left
          · intro w hSw; (try dsimp only at hSw); go_simp; try (with_reducible rfl)
          try simp only [Act.put, List.setIfInBounds_toArray, List.set_cons_zero, List.set_cons_succ]
          refine anyS_take (i := 6) (oi := { dst := some 28, op := Op.binOp BinOp.add 3 (Operand.tmp 27) (Operand.const (Value.int IntKind.i64 1)) 3, type := 3, pos := "dyeing.go:169", after := #[{ on := 5, ground := Ground.data }], guard := none }) (v := ?_) rfl rfl (by kernel_rfl) (by kernel_rfl) (by kernel_rfl) (fun _ _ _ h => h) ⟨(fun w f hf => by simp [Oper.about] at hf), .inl ⟨by rfl, ?_⟩⟩ hS0 ?_
          rotate_left
          · intro w hSw; (try dsimp only at hSw); go_simp; try (with_reducible rfl)
          try simp only [Act.put, List.setIfInBounds_toArray, List.set_cons_zero, List.set_cons_succ]
          refine anyS_take (i := 7) (oi := { dst := some 29, op := Op.move (Operand.tmp 2), type := 3, pos := "dyeing.go:169", after := #[], guard := none }) (v := ?_) rfl rfl (by kernel_rfl) (by kernel_rfl) (by kernel_rfl) (fun _ _ _ h => h) ⟨(fun w f hf => by simp [Oper.about] at hf), .inl ⟨by rfl, ?_⟩⟩ hS0 ?_
          rotate_left
          · intro w hSw; (try dsimp only at hSw); go_simp; try (with_reducible rfl)
          try simp only [Act.put, List.setIfInBounds_toArray, List.set_cons_zero, List.set_cons_succ]
          refine anyS_take (i := 8) (oi := { dst := some 30, op := Op.binOp BinOp.sub 3 (Operand.tmp 29) (Operand.const (Value.int IntKind.i64 1)) 3, type := 3, pos := "dyeing.go:169", after := #[{ on := 7, ground := Ground.data }], guard := none }) (v := ?_) rfl rfl (by kernel_rfl) (by kernel_rfl) (by kernel_rfl) (fun _ _ _ h => h) ⟨(fun w f hf => by simp [Oper.about] at hf), .inl ⟨by rfl, ?_⟩⟩ hS0 ?_
          rotate_left
          · intro w hSw; (try dsimp only at hSw); go_simp; try (with_reducible rfl)
          try simp only [Act.put, List.setIfInBounds_toArray, List.set_cons_zero, List.set_cons_succ]
          refine anyS_one (i := 9) (o := { dst := some 31, op := Op.call { callee := Callee.value (Operand.tmp 22), args := #[Operand.tmp 26, Operand.tmp 28, Operand.tmp 30], argTypes := #[59, 3, 3] }, type := 4, pos := "dyeing.go:169", after := #[{ on := 0, ground := Ground.data }, { on := 4, ground := Ground.data }, { on := 6, ground := Ground.data }, { on := 8, ground := Ground.data }], guard := none }) (by kernel_rfl) rfl (by rfl) (fun K hK => ?_)
          go_simp
          refine ⟨trivial, fun h => (by cases h), HCALL.out.mono ?_⟩
          rintro e' W' hpost
          obtain ⟨rfl, hJ2⟩ := addPost_some hpost
          have HJ2 := Lib.hid hJ2
          clear hJ2 hpost
          have hS1 := (HJX.out _ _ HJ2.out).a
          refine hK _ _ hS1 ?_
          clear hK K
          try simp only [Act.put, List.setIfInBounds_toArray, List.set_cons_zero, List.set_cons_succ]
          refine anyS_take (i := 10) (oi := { dst := some 32, op := Op.unOp UnOp.not 4 (Operand.tmp 31), type := 4, pos := "dyeing.go:169", after := #[{ on := 9, ground := Ground.data }], guard := none }) (v := ?_) rfl rfl (by kernel_rfl) (by kernel_rfl) (by kernel_rfl) (fun _ _ _ h => h) ⟨(fun w f hf => by simp [Oper.about] at hf), .inl ⟨by rfl, ?_⟩⟩ (by assumption) ?_
          rotate_left
          · intro w hSw; (try dsimp only at hSw); go_simp; try (with_reducible rfl)
          try simp only [Act.put, List.setIfInBounds_toArray, List.set_cons_zero, List.set_cons_succ]
          refine anyS_done (by kernel_rfl) ?_ _
          clear hS1
          gi_wp2
          refine bodyPost_ret (by simp [results, Tryd.f48, go_sem]) rfl (.inr ⟨x, by rw [HE.out, HC'.out], rfl, HJ2.out⟩)
      · have hlti : ¬ (k : Int) < (of' : Int) := by omega
        gi_wp2
        refine bodyPost_ret (by simp [results, Tryd.f48, go_sem]) rfl (.inl ⟨by rw [HE.out, show of' - k = 0 by omega]; rfl, rfl, HJ.out⟩)
end Go.Proofs.YtegbbkmppphddaaDoor
