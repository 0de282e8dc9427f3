/- Of one text with its neighbours: Pure, Rd, Leaf, Bits, Possible, Own. -/
import Derived.RowKit3
import Derived.WalkKit
import Derived.Below
import Derived.Test.YtegbbkmppphddaaProg
import Derived.WalkLawsBesides
import Derived.WalkSpells
import Derived.Outline
import Derived.BigQuiet
import Derived.Deep.QuietTactic
import Derived.Deep.RegionHeld3
import Derived.Deep.DeepCutAuto
import Derived.Laws.BitsAllLaws
import Derived.Deep.LoopGhost
import Derived.Lib.Hide
import Derived.Deep.AppendLies
import Derived.Laws.AppendOwn
import Derived.Laws.OwnMore
set_option linter.unusedVariables false
set_option linter.unusedSimpArgs false
/- Plain data of the layer 'dyeing': cloths, tasks; no program in sight. -/
namespace Go.Proofs.Ytegbbkmppphddaa

/-- fits an int -/
def I64 (x : Int) : Prop := -9223372036854775808 ≤ x ∧ x ≤ 9223372036854775807

structure Cross where
  work : Int
  at_ : Int
  over : Int
  under : Int
structure Pin where
  work : Int
  at_ : Int
  left : Int
  right : Int
structure Cloth where
  threads : Int
  crosses : List Cross
  pins : List Pin
structure Wish where
  cross : Int
  allowed : Nat
structure Task where
  cloth : Cloth
  wishes : List Wish
  unlike : List (Int × Int)
  s0 : Int
  s1 : Int
  s2 : Int
  s3 : Int
  s4 : Int
  s5 : Int
def Task.supply (t : Task) : List Int := [t.s0, t.s1, t.s2, t.s3, t.s4, t.s5]

instance : Inhabited Cross := ⟨⟨0, 0, 0, 0⟩⟩
instance : Inhabited Pin := ⟨⟨0, 0, 0, 0⟩⟩
instance : Inhabited Wish := ⟨⟨0, 0⟩⟩

def Cross.wf (x : Cross) : Prop := I64 x.work ∧ I64 x.at_ ∧ I64 x.over ∧ I64 x.under
def Pin.wf (x : Pin) : Prop := I64 x.work ∧ I64 x.at_ ∧ I64 x.left ∧ I64 x.right
def Wish.wf (x : Wish) : Prop := I64 x.cross ∧ x.allowed < 256
structure Cloth.wf (c : Cloth) : Prop where
  threads : I64 c.threads
  crosses : ∀ x ∈ c.crosses, x.wf
  pins : ∀ x ∈ c.pins, x.wf
structure Task.wf (t : Task) : Prop where
  cloth : t.cloth.wf
  wishes : ∀ x ∈ t.wishes, x.wf
  unlike : ∀ x ∈ t.unlike, I64 x.1 ∧ I64 x.2
  s0 : I64 t.s0
  s1 : I64 t.s1
  s2 : I64 t.s2
  s3 : I64 t.s3
  s4 : I64 t.s4
  s5 : I64 t.s5

/-- How often a colour stands in a list. -/
def countC (l : List Int) (c : Int) : Nat := (l.filter fun x => x == c).length
theorem countC_le (l : List Int) (c : Int) : countC l c ≤ l.length := List.length_filter_le _ _
theorem countC_take_succ (l : List Int) (c : Int) (k : Nat) (h : k < l.length) : countC (l.take (k + 1)) c = countC (l.take k) c + if l[k] = c then 1 else 0 := by
  unfold countC
  rw [List.take_succ_eq_append_getElem h, List.filter_append, List.length_append]
  congr 1
  by_cases e : l[k] = c <;> simp [e]
theorem countC_append (l m : List Int) (c : Int) : countC (l ++ m) c = countC l c + countC m c := by
  unfold countC
  rw [List.filter_append, List.length_append]

/-- The colour that is seen at a crossing; -1: none yet. -/
def seenB (t : Task) (l : List Int) (x : Int) : Int :=
  let n := (t.cloth.crosses.getD x.toNat default).over
  if n ≥ l.length then -1 else l.getD n.toNat 0
/-- One wish, one pair: is nothing wrong with it? -/
def wishB (t : Task) (l : List Int) (x : Wish) : Bool :=
  !(decide (0 ≤ seenB t l x.cross) && !x.allowed.testBit (seenB t l x.cross).toNat)
def pairB (t : Task) (l : List Int) (x : Int × Int) : Bool :=
  !(decide (0 ≤ seenB t l x.1) && decide (seenB t l x.1 = seenB t l x.2))
def supplyB (t : Task) (l : List Int) : Bool := (List.range 6).all fun (c : Nat) => decide ((countC l (c : Int) : Int) ≤ t.supply[c]?.getD 0)
/-- Is nothing wrong with the beginning of an arrangement? -/
def possibleB (t : Task) (l : List Int) : Bool := supplyB t l && t.wishes.all (wishB t l) && t.unlike.all (pairB t l)

theorem possible_supply_no {t : Task} {l : List Int} {k : Nat} (hk : k < 6) (h : t.supply[k]?.getD 0 < (countC l (k : Int) : Int)) : possibleB t l = false := by
  have : supplyB t l = false := by
    unfold supplyB
    rw [List.all_eq_false]
    exact ⟨k, by simpa using hk, by simpa using h⟩
  simp [possibleB, this]
theorem supplyB_yes {t : Task} {l : List Int} (h : ∀ j : Nat, j < 6 → (countC l (j : Int) : Int) ≤ t.supply[j]?.getD 0) : supplyB t l = true := by
  unfold supplyB
  rw [List.all_eq_true]
  intro k hk
  simpa using h k (by simpa using hk)
theorem possible_wish_no {t : Task} {l : List Int} {k : Nat} (hk : k < t.wishes.length) (h : wishB t l t.wishes[k] = false) : possibleB t l = false := by
  have : t.wishes.all (wishB t l) = false := by
    rw [List.all_eq_false]
    exact ⟨t.wishes[k], List.getElem_mem hk, by simp [h]⟩
  simp [possibleB, this]
theorem all_yes {α : Type} {f : α → Bool} {l : List α} (h : ∀ j (hj : j < l.length), f l[j] = true) : l.all f = true := by
  rw [List.all_eq_true]
  intro x hx
  obtain ⟨j, hj, rfl⟩ := List.getElem_of_mem hx
  exact h j hj
theorem possible_pair_no {t : Task} {l : List Int} {k : Nat} (hk : k < t.unlike.length) (h : pairB t l t.unlike[k] = false) : possibleB t l = false := by
  have : t.unlike.all (pairB t l) = false := by
    rw [List.all_eq_false]
    exact ⟨t.unlike[k], List.getElem_mem hk, by simp [h]⟩
  simp [possibleB, this]

/-- What a valid task is. -/
structure Task.ok (t : Task) : Prop where
  threads : 2 ≤ t.cloth.threads ∧ t.cloth.threads ≤ 16
  over : ∀ x ∈ t.cloth.crosses, 0 ≤ x.over ∧ x.over < t.cloth.threads
  wish : ∀ x ∈ t.wishes, 0 ≤ x.cross ∧ x.cross < t.cloth.crosses.length ∧ x.allowed < 64
  pair : ∀ x ∈ t.unlike, 0 ≤ x.1 ∧ x.1 < t.cloth.crosses.length ∧ 0 ≤ x.2 ∧ x.2 < t.cloth.crosses.length ∧ x.1 ≠ x.2
  supply : ∀ c : Nat, c < 6 → 0 ≤ t.supply[c]?.getD 0 ∧ t.supply[c]?.getD 0 ≤ 100

def Cols (l : List Int) : Prop := ∀ x ∈ l, 0 ≤ x ∧ x < 6
theorem seenB_bounds {t : Task} {l : List Int} (hc : Cols l) (x : Int) : -1 ≤ seenB t l x ∧ seenB t l x < 6 := by
  unfold seenB
  dsimp only
  split
  · omega
  · rename_i h
    by_cases h0 : ((t.cloth.crosses.getD x.toNat default).over).toNat < l.length
    · have := hc _ (List.getElem_mem h0)
      rw [List.getD_eq_getElem?_getD, List.getElem?_eq_getElem h0, Option.getD_some]
      omega
    · rw [List.getD_eq_getElem?_getD, List.getElem?_eq_none (by omega), Option.getD_none]
      omega

/-- The reference's search: the least arrangement that begins so and meets a task; n: how many threads have no colour yet. -/
def solveB (t : Task) : Nat → List Int → Option (List Int)
  | 0, l => if possibleB t l then some l else none
  | n + 1, l => if possibleB t l then (List.range 6).findSome? (fun (c : Nat) => solveB t n (l ++ [(c : Int)])) else none
theorem solveB_no {t : Task} {l : List Int} (n : Nat) (h : possibleB t l = false) : solveB t n l = none := by cases n <;> simp [solveB, h]
theorem findSome_yes {α : Type} {f : Nat → Option α} {n k : Nat} (hk : k < n) (h : ∀ j, j < k → f j = none) {x : α} (hx : f k = some x) : (List.range n).findSome? f = some x := by
  obtain ⟨m, rfl⟩ : ∃ m, n = k + 1 + m := ⟨n - (k + 1), by omega⟩
  rw [List.range_add, List.findSome?_append, List.range_succ, List.findSome?_append]
  have : (List.range k).findSome? f = none := by
    rw [List.findSome?_eq_none_iff]; intro j hj; exact h j (by simpa using hj)
  simp [this, hx]
theorem findSome_no {α : Type} {f : Nat → Option α} {n : Nat} (h : ∀ j, j < n → f j = none) : (List.range n).findSome? f = none := by
  rw [List.findSome?_eq_none_iff]; intro j hj; exact h j (by simpa using hj)
theorem cols_snoc {l : List Int} (h : Cols l) {k : Nat} (hk : k < 6) : Cols (l ++ [(k : Int)]) := by
  intro x hx
  rw [List.mem_append] at hx
  rcases hx with hx | hx
  · exact h x hx
  · simp at hx; omega

/-! ### Cloths -/
def iota (n : Nat) : List Int := (List.range n).map fun (i : Nat) => (i : Int)
theorem iota_length (n : Nat) : (iota n).length = n := by simp [iota]
theorem iota_succ (n : Nat) : iota (n + 1) = iota n ++ [(n : Int)] := by simp [iota, List.range_succ]
theorem iota_wf (n : Nat) (h : n ≤ 1000) : ∀ x ∈ iota n, I64 x := by
  intro x hx
  simp only [iota, List.mem_map, List.mem_range] at hx
  obtain ⟨i, hi, rfl⟩ := hx
  unfold I64; omega

def crossOk (n : Int) (x : Cross) : Bool := decide (0 ≤ x.at_) && decide (x.at_ ≤ n - 2) && decide (0 ≤ x.work)
def pinOk (n : Int) (x : Pin) : Bool :=
  decide (0 ≤ x.at_) && decide (x.at_ ≤ n - 2) && decide (0 ≤ x.work) && (decide (0 ≤ x.left) && decide (x.left ≤ n - 1)) && (decide (0 ≤ x.right) && decide (x.right ≤ n - 1)) && !decide (x.left = x.right)
/-- Are the numbers of a cloth in their ranges? -/
def numbersB (c : Cloth) : Bool := decide (2 ≤ c.threads) && c.crosses.all (crossOk c.threads) && c.pins.all (pinOk c.threads)
/-- Are these the threads of a crossing? -/
def meetB (a b : Int) (x : Cross) : Bool := (decide (a = x.over) && decide (b = x.under)) || (decide (b = x.over) && decide (a = x.under))
/-- The threads in their places behind one crossing. -/
def swapL (l : List Int) (k : Nat) : List Int := (l.set k (l.getD (k + 1) 0)).set (k + 1) (l.getD k 0)
/-- The threads in their places behind all crossings; none: a crossing is of other threads. -/
def endsB : List Int → List Cross → Option (List Int)
  | l, [] => some l
  | l, x :: r => if meetB (l.getD x.at_.toNat 0) (l.getD (x.at_.toNat + 1) 0) x then endsB (swapL l x.at_.toNat) r else none
def clothB (c : Cloth) : Int :=
  if 48 < c.threads ∨ 20000 < c.crosses.length ∨ 6400 < c.pins.length then 3
  else if numbersB c = false then 2
  else if (endsB (iota c.threads.toNat) c.crosses).isSome then 0 else 6
theorem swapL_length (l : List Int) (k : Nat) : (swapL l k).length = l.length := by simp [swapL]
theorem all_no {α : Type} {f : α → Bool} {l : List α} {k : Nat} (hk : k < l.length) (h : f l[k] = false) : l.all f = false := by
  rw [List.all_eq_false]
  exact ⟨l[k], List.getElem_mem hk, by simp [h]⟩
theorem numbers_cross_no {c : Cloth} {k : Nat} (hk : k < c.crosses.length) (h : crossOk c.threads c.crosses[k] = false) : numbersB c = false := by
  simp [numbersB, all_no hk h]
theorem numbers_pin_no {c : Cloth} {k : Nat} (hk : k < c.pins.length) (h : pinOk c.threads c.pins[k] = false) : numbersB c = false := by
  simp [numbersB, all_no hk h]
theorem swapL_wf {l : List Int} (h : ∀ x ∈ l, I64 x) (k : Nat) : ∀ x ∈ swapL l k, I64 x := by
  have h0 : ∀ j, I64 (l.getD j 0) := fun j => by
    rw [List.getD_eq_getElem?_getD]
    rcases Nat.lt_or_ge j l.length with hj | hj
    · rw [List.getElem?_eq_getElem hj]; exact h _ (List.getElem_mem hj)
    · rw [List.getElem?_eq_none hj]; unfold I64; simp
  intro x hx
  rcases List.mem_or_eq_of_mem_set hx with hx | rfl
  · rcases List.mem_or_eq_of_mem_set hx with hx | rfl
    · exact h x hx
    · exact h0 _
  · exact h0 _

/-! ### Tasks -/
def isB (n : Nat) (x : Int) : Bool := decide (0 ≤ x ∧ x < n)
def wishOk (n : Nat) (x : Wish) : Bool := isB n x.cross && decide (x.allowed < 64)
def pairOk (n : Nat) (x : Int × Int) : Bool := isB n x.1 && isB n x.2 && !decide (x.1 = x.2)
def supplyOk (t : Task) : Bool := (List.range 6).all fun (c : Nat) => decide (0 ≤ t.supply[c]?.getD 0) && decide (t.supply[c]?.getD 0 ≤ 100)
def goodB (t : Task) : Bool := t.wishes.all (wishOk t.cloth.crosses.length) && t.unlike.all (pairOk t.cloth.crosses.length) && supplyOk t
/-- The error of a task. -/
def taskB (t : Task) : Int :=
  if clothB t.cloth ≠ 0 then clothB t.cloth
  else if 16 < t.cloth.threads ∨ 100 < t.wishes.length ∨ 100 < t.unlike.length then 3
  else if goodB t then 0 else 2
theorem all_take_succ {α : Type} {f : α → Bool} {l : List α} {k : Nat} (hk : k < l.length) : (l.take (k + 1)).all f = ((l.take k).all f && f l[k]) := by
  rw [List.take_succ_eq_append_getElem hk, List.all_append]; simp
theorem all_range_succ {f : Nat → Bool} {k : Nat} : (List.range (k + 1)).all f = ((List.range k).all f && f k) := by
  rw [List.range_succ, List.all_append]; simp
end Go.Proofs.Ytegbbkmppphddaa
/- How the plain data lie in memory: rows of cells that are read. -/
namespace Go.Proofs.Ytegbbkmppphddaa
open Go.RowKit

/-- A slice's elements, as rows of cells from an address on. -/
def Rows (w : World) (A : Option Addr) (sz : Nat) (rows : List (List Value)) : Prop :=
  rows = [] ∨ ∃ b off, A = some ⟨b, off, none⟩ ∧ b < w.heap.size ∧
    ∀ (i : Nat) (r : List Value), rows[i]? = some r → ∀ (j : Nat) (v : Value), r[j]? = some v → w.cell? ⟨b, off + i * sz + j, none⟩ = some v

theorem Rows.below {w w' : World} {A : Option Addr} {sz : Nat} {rows : List (List Value)} (h : Rows w A sz rows) (hb : Below w.heap.size w w') : Rows w' A sz rows := by
  rcases h with h | ⟨b, off, hA, hlt, hc⟩
  · exact .inl h
  · exact .inr ⟨b, off, hA, Nat.lt_of_lt_of_le hlt hb.size, fun i r hr j v hv => (hb.cell (p := ⟨b, off + i * sz + j, none⟩) hlt).trans (hc i r hr j v hv)⟩

theorem Rows.below' {B : Nat} {w w' : World} {A : Option Addr} {sz : Nat} {rows : List (List Value)} (h : Rows w A sz rows) (hB : w.heap.size ≤ B) (hb : Below B w w') : Rows w' A sz rows := h.below (hb.mono hB)
def Cross.cells (x : Cross) : List Value := [.int .i64 x.work, .int .i64 x.at_, .int .i64 x.over, .int .i64 x.under]
def Pin.cells (x : Pin) : List Value := [.int .i64 x.work, .int .i64 x.at_, .int .i64 x.left, .int .i64 x.right]
def Wish.cells (x : Wish) : List Value := [.int .i64 x.cross, .int .u8 (x.allowed : Int)]
def pairCells (x : Int × Int) : List Value := [.int .i64 x.1, .int .i64 x.2]
def intCells (x : Int) : List Value := [.int .i64 x]

theorem Rows.cross {w : World} {A : Option Addr} {l : List Cross} (h : Rows w A 4 (l.map Cross.cells)) {i : Nat} (hi : i < l.length) :
    ∃ b off, A = some ⟨b, off, none⟩ ∧ b < w.heap.size ∧ w.cell? ⟨b, off + i * 4, none⟩ = some (.int .i64 l[i].work) ∧ w.cell? ⟨b, off + i * 4 + 1, none⟩ = some (.int .i64 l[i].at_) ∧
      w.cell? ⟨b, off + i * 4 + 2, none⟩ = some (.int .i64 l[i].over) ∧ w.cell? ⟨b, off + i * 4 + 3, none⟩ = some (.int .i64 l[i].under) := by
  rcases h with h | ⟨b, off, hA, hlt, hc⟩
  · simp at h; subst h; simp at hi
  · have hr : (l.map Cross.cells)[i]? = some l[i].cells := by simp [hi]
    exact ⟨b, off, hA, hlt, hc i _ hr 0 _ rfl, hc i _ hr 1 _ rfl, hc i _ hr 2 _ rfl, hc i _ hr 3 _ rfl⟩
theorem Rows.pin {w : World} {A : Option Addr} {l : List Pin} (h : Rows w A 4 (l.map Pin.cells)) {i : Nat} (hi : i < l.length) :
    ∃ b off, A = some ⟨b, off, none⟩ ∧ b < w.heap.size ∧ w.cell? ⟨b, off + i * 4, none⟩ = some (.int .i64 l[i].work) ∧ w.cell? ⟨b, off + i * 4 + 1, none⟩ = some (.int .i64 l[i].at_) ∧
      w.cell? ⟨b, off + i * 4 + 2, none⟩ = some (.int .i64 l[i].left) ∧ w.cell? ⟨b, off + i * 4 + 3, none⟩ = some (.int .i64 l[i].right) := by
  rcases h with h | ⟨b, off, hA, hlt, hc⟩
  · simp at h; subst h; simp at hi
  · have hr : (l.map Pin.cells)[i]? = some l[i].cells := by simp [hi]
    exact ⟨b, off, hA, hlt, hc i _ hr 0 _ rfl, hc i _ hr 1 _ rfl, hc i _ hr 2 _ rfl, hc i _ hr 3 _ rfl⟩
theorem Rows.wish {w : World} {A : Option Addr} {l : List Wish} (h : Rows w A 2 (l.map Wish.cells)) {i : Nat} (hi : i < l.length) :
    ∃ b off, A = some ⟨b, off, none⟩ ∧ b < w.heap.size ∧ w.cell? ⟨b, off + i * 2, none⟩ = some (.int .i64 l[i].cross) ∧ w.cell? ⟨b, off + i * 2 + 1, none⟩ = some (.int .u8 (l[i].allowed : Int)) := by
  rcases h with h | ⟨b, off, hA, hlt, hc⟩
  · simp at h; subst h; simp at hi
  · have hr : (l.map Wish.cells)[i]? = some l[i].cells := by simp [hi]
    exact ⟨b, off, hA, hlt, hc i _ hr 0 _ rfl, hc i _ hr 1 _ rfl⟩
theorem Rows.pair {w : World} {A : Option Addr} {l : List (Int × Int)} (h : Rows w A 2 (l.map pairCells)) {i : Nat} (hi : i < l.length) :
    ∃ b off, A = some ⟨b, off, none⟩ ∧ b < w.heap.size ∧ w.cell? ⟨b, off + i * 2, none⟩ = some (.int .i64 l[i].1) ∧ w.cell? ⟨b, off + i * 2 + 1, none⟩ = some (.int .i64 l[i].2) := by
  rcases h with h | ⟨b, off, hA, hlt, hc⟩
  · simp at h; subst h; simp at hi
  · have hr : (l.map pairCells)[i]? = some (pairCells l[i]) := by simp [hi]
    exact ⟨b, off, hA, hlt, hc i _ hr 0 _ rfl, hc i _ hr 1 _ rfl⟩
theorem Rows.int {w : World} {A : Option Addr} {l : List Int} (h : Rows w A 1 (l.map intCells)) {i : Nat} (hi : i < l.length) :
    ∃ b off, A = some ⟨b, off, none⟩ ∧ b < w.heap.size ∧ w.cell? ⟨b, off + i, none⟩ = some (.int .i64 l[i]) := by
  rcases h with h | ⟨b, off, hA, hlt, hc⟩
  · simp at h; subst h; simp at hi
  · have hr : (l.map intCells)[i]? = some (intCells l[i]) := by simp [hi]
    refine ⟨b, off, hA, hlt, ?_⟩
    have := hc i _ hr 0 _ rfl
    simpa using this

/-- A slice of int that is read. -/
structure IntsRd (w : World) (A : Option Addr) (cap : Nat) (l : List Int) : Prop where
  rows : Rows w A 1 (l.map intCells)
  len : l.length ≤ cap
  nil : A = none → cap = 0
  cap : cap ≤ maxLen
  wf : ∀ x ∈ l, I64 x
theorem IntsRd.below {w w' : World} {A : Option Addr} {cap : Nat} {l : List Int} (h : IntsRd w A cap l) (hb : Below w.heap.size w w') : IntsRd w' A cap l :=
  ⟨h.rows.below hb, h.len, h.nil, h.cap, h.wf⟩

theorem IntsRd.below' {B : Nat} {w w' : World} {A : Option Addr} {cap : Nat} {l : List Int} (h : IntsRd w A cap l) (hB : w.heap.size ≤ B) (hb : Below B w w') : IntsRd w' A cap l := h.below (hb.mono hB)
/-- A cloth by value. -/
structure ClothRd (w : World) (cA : Option Addr) (cc : Nat) (pA : Option Addr) (pc : Nat) (c : Cloth) : Prop where
  crosses : Rows w cA 4 (c.crosses.map Cross.cells)
  clen : c.crosses.length ≤ cc
  ccap : cc ≤ maxLen
  pins : Rows w pA 4 (c.pins.map Pin.cells)
  plen : c.pins.length ≤ pc
  pcap : pc ≤ maxLen
  wf : c.wf
theorem ClothRd.below {w w' : World} {cA : Option Addr} {cc : Nat} {pA : Option Addr} {pc : Nat} {c : Cloth} (h : ClothRd w cA cc pA pc c) (hb : Below w.heap.size w w') : ClothRd w' cA cc pA pc c :=
  ⟨h.crosses.below hb, h.clen, h.ccap, h.pins.below hb, h.plen, h.pcap, h.wf⟩

@[reducible] def clothVal (cA : Option Addr) (cc : Nat) (pA : Option Addr) (pc : Nat) (c : Cloth) : Value :=
  .agg #[.int .i64 c.threads, .slice cA c.crosses.length cc, .slice pA c.pins.length pc]
theorem ClothRd.below' {B : Nat} {w w' : World} {cA : Option Addr} {cc : Nat} {pA : Option Addr} {pc : Nat} {c : Cloth} (h : ClothRd w cA cc pA pc c) (hB : w.heap.size ≤ B) (hb : Below B w w') : ClothRd w' cA cc pA pc c := h.below (hb.mono hB)
/-- A task by value: where its slices lie. -/
structure TaskRd (w : World) (cA : Option Addr) (cc : Nat) (pA : Option Addr) (pc : Nat) (wA : Option Addr) (wc : Nat) (uA : Option Addr) (uc : Nat) (t : Task) : Prop where
  cloth : ClothRd w cA cc pA pc t.cloth
  wishes : Rows w wA 2 (t.wishes.map Wish.cells)
  wlen : t.wishes.length ≤ wc
  wcap : wc ≤ maxLen
  unlike : Rows w uA 2 (t.unlike.map pairCells)
  ulen : t.unlike.length ≤ uc
  ucap : uc ≤ maxLen
  wf : t.wf
theorem TaskRd.below {w w' : World} {cA : Option Addr} {cc : Nat} {pA : Option Addr} {pc : Nat} {wA : Option Addr} {wc : Nat} {uA : Option Addr} {uc : Nat} {t : Task}
    (h : TaskRd w cA cc pA pc wA wc uA uc t) (hb : Below w.heap.size w w') : TaskRd w' cA cc pA pc wA wc uA uc t :=
  ⟨h.cloth.below hb, h.wishes.below hb, h.wlen, h.wcap, h.unlike.below hb, h.ulen, h.ucap, h.wf⟩

theorem TaskRd.below' {B : Nat} {w w' : World} {cA : Option Addr} {cc : Nat} {pA : Option Addr} {pc : Nat} {wA : Option Addr} {wc : Nat} {uA : Option Addr} {uc : Nat} {t : Task}
    (h : TaskRd w cA cc pA pc wA wc uA uc t) (hB : w.heap.size ≤ B) (hb : Below B w w') : TaskRd w' cA cc pA pc wA wc uA uc t := h.below (hb.mono hB)
/-- The eleven cells of a task. -/
@[reducible] def taskVal (cA : Option Addr) (cc : Nat) (pA : Option Addr) (pc : Nat) (wA : Option Addr) (wc : Nat) (uA : Option Addr) (uc : Nat) (t : Task) : Value :=
  .agg #[.int .i64 t.cloth.threads, .slice cA t.cloth.crosses.length cc, .slice pA t.cloth.pins.length pc, .slice wA t.wishes.length wc, .slice uA t.unlike.length uc,
    .int .i64 t.s0, .int .i64 t.s1, .int .i64 t.s2, .int .i64 t.s3, .int .i64 t.s4, .int .i64 t.s5]
end Go.Proofs.Ytegbbkmppphddaa
/- Small functions: over, is, seen. -/
namespace Go.Proofs.Ytegbbkmppphddaa
open Go.RowKit

theorem bcell {B : Nat} {W w1 : World} (hb : Below B W w1) : (∀ b o, b < B → w1.cell? ⟨b, o, none⟩ = W.cell? ⟨b, o, none⟩) ∧ (∀ b o, b < B → w1.frozen? ⟨b, o, none⟩ = W.frozen? ⟨b, o, none⟩) :=
  ⟨fun b o h => hb.cell (p := ⟨b, o, none⟩) h, fun b o h => hb.frozen (p := ⟨b, o, none⟩) h⟩
/-- What a region of loads and of calls that make memory keeps. -/
theorem held_drew (wr : World) : Below wr.heap.size wr wr.drew ∧ (∀ b o, b < wr.heap.size → wr.drew.cell? ⟨b, o, none⟩ = wr.cell? ⟨b, o, none⟩) := ⟨(Below.refl _ _).drew, fun _ _ _ => rfl⟩
theorem held_step {wr w1 w2 : World} (h1 : Below wr.heap.size wr w1 ∧ (∀ b o, b < wr.heap.size → w1.cell? ⟨b, o, none⟩ = wr.cell? ⟨b, o, none⟩)) (h2 : Below w1.heap.size w1 w2) :
    Below wr.heap.size wr w2 ∧ (∀ b o, b < wr.heap.size → w2.cell? ⟨b, o, none⟩ = wr.cell? ⟨b, o, none⟩) := by
  have h := h1.1.trans (h2.mono h1.1.size)
  exact ⟨h, (bcell h).1⟩
theorem below_box {w : World} (o : Obj) : Below w.heap.size w (w.alloc o) := (Below.refl _ _).alloc (Nat.le_refl _) _

set_option maxHeartbeats 400000 in
theorem over_any {w : World} {cA : Option Addr} {cc : Nat} {pA : Option Addr} {pc : Nat} {wA : Option Addr} {wc : Nat} {uA : Option Addr} {uc : Nat} {t : Task}
    (h : TaskRd w cA cc pA pc wA wc uA uc t) (i : Nat) (hi : i < t.cloth.crosses.length) :
    Calls Try.prog 37 #[taskVal cA cc pA pc wA wc uA uc t, .int .i64 i] w fun e w' => e = .returned (.int .i64 t.cloth.crosses[i].over) ∧ Below w.heap.size w w' := by
  obtain ⟨b, off, rfl, hb, h0, h1, h2, h3⟩ := h.cloth.crosses.cross hi
  have hl := h.cloth.clen
  have hm := h.cloth.ccap
  unfold maxLen at hm
  clear h
  go_enter Try.func37, Try.ntmps37
  go_wp2
  go_ret
  exact ⟨rfl, below_box _⟩

theorem box_supply {w : World} {a b c d e : Value} (t : Task) (k : Nat) (hk : k < 6) :
    (w.alloc (.cells #[a, b, c, d, e, .int .i64 t.s0, .int .i64 t.s1, .int .i64 t.s2, .int .i64 t.s3, .int .i64 t.s4, .int .i64 t.s5] 41)).cell? ⟨w.heap.size, 5 + k, none⟩ = some (.int .i64 (t.supply[k]?.getD 0)) := by
  have : k = 0 ∨ k = 1 ∨ k = 2 ∨ k = 3 ∨ k = 4 ∨ k = 5 := by omega
  rcases this with rfl | rfl | rfl | rfl | rfl | rfl <;> simp [Task.supply]

end Go.Proofs.Ytegbbkmppphddaa
/- Bits of small numbers, as the walk spells them. -/
namespace Go.Proofs.Ytegbbkmppphddaa
open Go

theorem bit_mod (a q : Nat) : a / 2 ^ q % 2 = if a.testBit q then 1 else 0 := by
  rw [Nat.testBit_eq_decide_div_mod_eq]
  have := Nat.mod_two_eq_zero_or_one (a / 2 ^ q)
  rcases this with h | h <;> simp [h]
theorem div_lt {a b : Nat} (q : Nat) (h : a < b) : a / 2 ^ q < b := Nat.lt_of_le_of_lt (Nat.div_le_self _ _) h
theorem cast_div (a q : Nat) : ((a : Int) / 2 ^ q) = ((a / 2 ^ q : Nat) : Int) := by simp
theorem u8_bit (a q : Nat) (ha : a < 256) : bits .and .u8 ((a : Int) / 2 ^ q) 1 = if a.testBit q then 1 else 0 := by
  rw [cast_div]
  have := u8_and_nat (a / 2 ^ q) 1 (div_lt q ha) (by omega)
  rw [show ((1 : Nat) : Int) = 1 from rfl] at this
  rw [this, nat_mask1, bit_mod]
  split <;> rfl
theorem u8_bit0 (a q : Nat) (ha : a < 256) : (bits .and .u8 ((a : Int) / 2 ^ q) 1 == 0) = !a.testBit q := by
  rw [u8_bit a q ha]; cases a.testBit q <;> rfl
theorem u8_bit1 (a q : Nat) (ha : a < 256) : (bits .and .u8 ((a : Int) / 2 ^ q) 1 == 1) = a.testBit q := by
  rw [u8_bit a q ha]; cases a.testBit q <;> rfl
theorem u64_bit (a q : Nat) (ha : a < 18446744073709551616) : bits .and .u64 ((a : Int) / 2 ^ q) 1 = if a.testBit q then 1 else 0 := by
  rw [cast_div]
  have := u64_and_nat (a / 2 ^ q) 1 (div_lt q ha) (by omega)
  rw [show ((1 : Nat) : Int) = 1 from rfl] at this
  rw [this, nat_mask1, bit_mod]
  split <;> rfl
theorem u64_bit1 (a q : Nat) (ha : a < 18446744073709551616) : (bits .and .u64 ((a : Int) / 2 ^ q) 1 == 1) = a.testBit q := by
  rw [u64_bit a q ha]; cases a.testBit q <;> rfl
end Go.Proofs.Ytegbbkmppphddaa
/- The reference's 'possible': is nothing wrong with the beginning of an arrangement? -/
namespace Go.Proofs.Ytegbbkmppphddaa
open Go.RowKit

end Go.Proofs.Ytegbbkmppphddaa
/- Slices of the call's own, read as lists; what a region of loads, calls and appends keeps. -/
namespace Go.Proofs.Ytegbbkmppphddaa
open Go.RowKit

abbrev Held (wr w1 : World) : Prop := Below wr.heap.size wr w1 ∧ (∀ b o, b < wr.heap.size → w1.cell? ⟨b, o, none⟩ = wr.cell? ⟨b, o, none⟩)
theorem held_of {wr w1 : World} (h : Below wr.heap.size wr w1) : Held wr w1 := ⟨h, (bcell h).1⟩
theorem held_alloc {wr w1 : World} (h : Held wr w1) (o : Obj) : Held wr (w1.alloc o) := held_of (h.1.alloc h.1.size o)
theorem held_grown {wr w1 w2 : World} {row : Option Nat} (h : Held wr w1) (hg : w1.grownBy w2 row) (hr : ∀ k, row = some k → wr.heap.size ≤ k) : Held wr w2 := held_of (h.1.grown hg h.1.size hr)

def ints (l : List Int) : List Value := l.map (Value.int .i64)
theorem ints_length (l : List Int) : (ints l).length = l.length * 1 := by simp [ints]
theorem ints_one (l : List Int) : ∀ u ∈ ints l, u.oneCell' = true := by
  intro u hu
  simp only [ints, List.mem_map] at hu
  obtain ⟨x, _, rfl⟩ := hu
  rfl
theorem ints_append (l m : List Int) : ints l ++ ints m = ints (l ++ m) := by simp [ints]
theorem ints_set (l : List Int) (k : Nat) (x : Int) : ints (l.set k x) = (ints l).set k (.int .i64 x) := by simp [ints, List.map_set]
/-- The cells of a list that is read. -/
theorem IntsRd.news {w : World} {ad : Addr} {cap : Nat} {l : List Int} (h : IntsRd w (some ad) cap l) : ∀ j u, (ints l)[j]? = some u → w.cell? (ad.add j) = some u := by
  intro j u hu
  have hj : j < l.length := by
    rcases Nat.lt_or_ge j l.length with hlt | hge
    · exact hlt
    · rw [List.getElem?_eq_none (by simp [ints]; omega)] at hu; cases hu
  obtain ⟨b, off, hA, _, hc⟩ := h.rows.int hj
  obtain rfl := Option.some.inj hA
  have hadd : (⟨b, off, none⟩ : Addr).add j = ⟨b, off + j, none⟩ := by unfold Addr.add; split <;> simp_all
  rw [hadd, hc]
  simpa [ints, hj] using hu
theorem IntsRd.of_owns {w : World} {base e g n cap : Nat} {l : List Int} (h : w.ownsRow base e 1 (.slice (some ⟨g, 0, none⟩) n cap) n (ints l)) (hw : ∀ x ∈ l, I64 x) : IntsRd w (some ⟨g, 0, none⟩) cap l := by
  have hn : l.length = n := by have := h.1; simp [ints] at this; omega
  rcases h.2 with ⟨h', _⟩ | ⟨g', cap', cur, h', _, hg, hnc, hm, _, _⟩
  · simp at h'
  · simp only [Value.slice.injEq, Option.some.injEq, Addr.mk.injEq, and_true, true_and] at h'
    obtain ⟨rfl, rfl⟩ := h'
    refine ⟨.inr ⟨g, 0, rfl, ?_, ?_⟩, by omega, (fun h => by cases h), hm, hw⟩
    · rcases Nat.lt_or_ge g w.heap.size with hlt | hge
      · exact hlt
      · rw [Array.getElem?_eq_none hge] at hg; cases hg
    · intro i r hr j v hv
      have hi : i < l.length := by
        rcases Nat.lt_or_ge i l.length with hlt | hge
        · exact hlt
        · rw [List.getElem?_eq_none (by simp; omega)] at hr; cases hr
      have hr' : r = [.int .i64 l[i]] := by simpa [hi, intCells] using hr.symm
      subst hr'
      have hj : j = 0 := by
        rcases Nat.eq_zero_or_pos j with h0 | h0
        · exact h0
        · rw [List.getElem?_eq_none (by simp; omega)] at hv; cases hv
      subst hj
      have := h.cellAt i (by omega)
      simp only [Nat.mul_one, Nat.add_zero, Nat.zero_add]
      rw [this, ← hv]
      simp [ints, hi]

theorem own_lit0 {base e H : Nat} (W : World) (h : base ≤ W.heap.size) (hH : H = W.heap.size) : (W.alloc (.cells #[] e)).ownsRow base e 1 (.slice (some ⟨H, 0, none⟩) 0 0) ([] : List Int).length (ints []) := by
  subst hH
  exact World.ownsRow_lit W #[] 0 h (by unfold maxLen; omega) rfl
theorem one_int {W : World} {H : Nat} (x : Int) (hx : I64 x) (hc : W.cell? ⟨H, 0, none⟩ = some (.int .i64 x)) (hH : H < W.heap.size) : IntsRd W (some ⟨H, 0, none⟩) 1 [x] := by
  refine ⟨.inr ⟨H, 0, rfl, hH, ?_⟩, by simp, (fun h => by cases h), by unfold maxLen; omega, ?_⟩
  · intro i r hr j v hv
    have hi : i = 0 := by
      rcases Nat.eq_zero_or_pos i with h0 | h0
      · exact h0
      · rw [List.getElem?_eq_none (by simp; omega)] at hr; cases hr
    subst hi
    have hr' : r = [.int .i64 x] := by simpa [intCells] using hr.symm
    subst hr'
    have hj : j = 0 := by
      rcases Nat.eq_zero_or_pos j with h0 | h0
      · exact h0
      · rw [List.getElem?_eq_none (by simp; omega)] at hv; cases hv
    subst hj
    have : v = .int .i64 x := by simpa using hv.symm
    subst this
    simpa using hc
  · intro y hy
    simp at hy
    subst hy
    exact hx
section
variable {P : Program}
/-- 'append(s, x...)': s a slice of int that the call owns, x any slice of int. -/
theorem run_append_ints (w : World) (t ty e : TypeId) (i : TypeInfo) (ht : P.underlying t = some (.slice e)) (hi : P.info? e = some i) (hz : i.zero = some (.int .i64 0)) (hsize : i.size = 1) (hby : i.bytes = 8)
    (base : Nat) (v : Value) (xs : List Int) (hown : w.ownsRow base e 1 v xs.length (ints xs)) (A : Option Addr) (c : Nat) (l : List Int) (hl : IntsRd w A c l)
    (hxw : ∀ x ∈ xs, I64 x) (h63 : xs.length + l.length ≤ 17592186044416) (hbase : base ≤ w.heap.size) :
    ∃ v' w', (Builtin.append_ #[t, t] ty #[v, .slice A l.length c]).run P w = .ok v' w' ∧ w'.ownsRow base e 1 v' (xs ++ l).length (ints (xs ++ l)) ∧ w.grownBy w' v.ownBlock ∧
      (v'.ownBlock = v.ownBlock ∨ v'.ownBlock = some w.heap.size) ∧ (∃ A' c', v' = .slice A' (xs ++ l).length c' ∧ IntsRd w' A' c' (xs ++ l)) := by
  have hwf : ∀ x ∈ xs ++ l, I64 x := fun x hx => by
    rcases List.mem_append.1 hx with h | h
    · exact hxw x h
    · exact hl.wf x h
  have fin : ∀ (v' : Value) (w' : World), w'.ownsRow base e 1 v' (xs ++ l).length (ints (xs ++ l)) → ∃ A' c', v' = .slice A' (xs ++ l).length c' ∧ IntsRd w' A' c' (xs ++ l) := by
    intro v' w' h
    rcases h.2 with ⟨rfl, h0⟩ | ⟨g, cap, cur, rfl, hr⟩
    · refine ⟨none, 0, by rw [h0], .inl ?_, by omega, fun _ => rfl, by unfold maxLen; omega, hwf⟩
      rw [List.map_eq_nil_iff]; exact List.eq_nil_of_length_eq_zero h0
    · exact ⟨_, _, rfl, IntsRd.of_owns h hwf⟩
  cases A with
  | none =>
    have hl0 : l = [] := by
      rcases hl.rows with h | ⟨b, off, hA, _⟩
      · simpa using h
      · cases hA
    subst hl0
    obtain rfl := hl.nil rfl
    refine ⟨v, w, run_append_owned_none w base t ty e i 1 ht hi v _ _ hown, by simpa using hown, ⟨rfl, rfl, rfl, Nat.le_refl _, fun _ _ _ => rfl⟩, .inl rfl, fin v w (by simpa using hown)⟩
  | some ad =>
    obtain ⟨v', w', hr, h2, h3, _, h5⟩ := run_append_own_at (P := P) w base t ty e i (.int .i64 0) 1 8 ht hi hz hsize hby rfl (by omega) v _ _ hown ad l.length c (ints l) (ints_length l) hl.news (ints_one l)
      (by unfold maxLen; omega) (by omega) hbase
    rw [ints_append] at h2
    rw [← List.length_append] at h2
    exact ⟨v', w', hr, h2, h3, h5, fin v' w' h2⟩
/-- At a step of a region that draws. -/
theorem step_append_ints {w : World} {ops : Array Oper} {o : Oper} {a : Act} {K : Act → World → Prop} {Q : Exit → Act → World → Prop} {E : Prop} (hgd : o.guard = none) (s x : Operand) (t e : TypeId) (i : TypeInfo)
    (ho : o.op = .call { callee := .builtin .append, args := #[s, x], argTypes := #[t, t] })
    (ht : P.underlying t = some (.slice e)) (hi : P.info? e = some i) (hz : i.zero = some (.int .i64 0)) (hsize : i.size = 1) (hby : i.bytes = 8)
    (base : Nat) (v : Value) (xs : List Int) (hs : a.eval s = v) (hown : w.ownsRow base e 1 v xs.length (ints xs)) (A : Option Addr) (c : Nat) (l : List Int) (hx : a.eval x = .slice A l.length c) (hl : IntsRd w A c l)
    (hxw : ∀ x ∈ xs, I64 x) (h63 : xs.length + l.length ≤ 17592186044416) (hbase : base ≤ w.heap.size)
    (h : ∀ A' c' w', w'.ownsRow base e 1 (.slice A' (xs ++ l).length c') (xs ++ l).length (ints (xs ++ l)) → w.grownBy w' v.ownBlock → (∀ k, v.ownBlock = some k → base ≤ k) → ((Value.slice A' (xs ++ l).length c').ownBlock = v.ownBlock ∨ (Value.slice A' (xs ++ l).length c').ownBlock = some w.heap.size) →
      IntsRd w' A' c' (xs ++ l) → K (a.put o.dst (.slice A' (xs ++ l).length c')) w') :
    if Region.wanted o (yielded ops a.tmps) = true then Oper.wp P o a w K Q else E := by
  have hw : Region.wanted o (yielded ops a.tmps) = true := by simp [Region.wanted, hgd]
  rw [if_pos hw]
  obtain ⟨v', w', hr, h2, h3, h4, A', c', rfl, h5⟩ := run_append_ints (P := P) w t o.type e i ht hi hz hsize hby base v xs hown A c l hl hxw h63 hbase
  unfold Oper.wp execOp
  simp only [ho, resolve, invoke, builtin, Sem.run_bind, Sem.run_pure, Result.andThen_ok, List.map_toArray, List.map_cons, List.map_nil, hs, hx, hr]
  exact h A' c' w' h2 h3 (fun k hk => (hown.lt k hk).1) h4 h5
/-- At a plain region's list. -/
theorem wpList_append_ints {w : World} {ops : Array Oper} {rest : List Oper} {o : Oper} {a : Act} {Q : Exit → Act → World → Prop} (hgd : o.guard = none) (s x : Operand) (t e : TypeId) (i : TypeInfo)
    (ho : o.op = .call { callee := .builtin .append, args := #[s, x], argTypes := #[t, t] })
    (ht : P.underlying t = some (.slice e)) (hi : P.info? e = some i) (hz : i.zero = some (.int .i64 0)) (hsize : i.size = 1) (hby : i.bytes = 8)
    (base : Nat) (v : Value) (xs : List Int) (hs : a.eval s = v) (hown : w.ownsRow base e 1 v xs.length (ints xs)) (A : Option Addr) (c : Nat) (l : List Int) (hx : a.eval x = .slice A l.length c) (hl : IntsRd w A c l)
    (hxw : ∀ x ∈ xs, I64 x) (h63 : xs.length + l.length ≤ 17592186044416) (hbase : base ≤ w.heap.size)
    (h : ∀ A' c' w', w'.ownsRow base e 1 (.slice A' (xs ++ l).length c') (xs ++ l).length (ints (xs ++ l)) → w.grownBy w' v.ownBlock → (∀ k, v.ownBlock = some k → base ≤ k) → ((Value.slice A' (xs ++ l).length c').ownBlock = v.ownBlock ∨ (Value.slice A' (xs ++ l).length c').ownBlock = some w.heap.size) →
      IntsRd w' A' c' (xs ++ l) → wpList P ops Q rest (a.put o.dst (.slice A' (xs ++ l).length c')) w') : wpList P ops Q (o :: rest) a w :=
  wpList_plain hgd fun _ hK => by
    obtain ⟨v', w', hr, h2, h3, h4, A', c', rfl, h5⟩ := run_append_ints (P := P) w t o.type e i ht hi hz hsize hby base v xs hown A c l hl hxw h63 hbase
    unfold Oper.wp execOp
    simp only [ho, resolve, invoke, builtin, Sem.run_bind, Sem.run_pure, Result.andThen_ok, List.map_toArray, List.map_cons, List.map_nil, hs, hx, hr]
    exact hK _ _ (h A' c' w' h2 h3 (fun k hk => (hown.lt k hk).1) h4 h5)
end
end Go.Proofs.Ytegbbkmppphddaa
