/- The argument of the top's law, and the parts of its code. -/
import Derived.Test.YtegbbkmppphddaaTFit
set_option linter.unusedVariables false
set_option pp.maxSteps 200000
set_option pp.deepTerms true
set_option linter.unusedSimpArgs false
namespace Go.Proofs.Ytegbbkmppphddaa
open Go.RowKit

/-- The argument of the top's law. -/
structure Dye where
  sheet : Sheet
  wishes : List Wish
  unlike : List (Nat × Nat)
  d0 : Int
  d1 : Int
  d2 : Int
  d3 : Int
  d4 : Int
  d5 : Int
def u16Cells (x : Nat × Nat) : List Value := [.int .u16 (x.1 : Nat), .int .u16 (x.2 : Nat)]
structure DyeRd (w : World) (sA : Option Addr) (sc : Nat) (wA : Option Addr) (wc : Nat) (uA : Option Addr) (uc : Nat) (x : Dye) : Prop where
  sheet : SheetRd w sA sc x.sheet
  wishes : Rows w wA 2 (x.wishes.map Wish.cells)
  wlen : x.wishes.length ≤ wc
  wcap : wc ≤ maxLen
  unlike : Rows w uA 2 (x.unlike.map u16Cells)
  ulen : x.unlike.length ≤ uc
  ucap : uc ≤ maxLen
  wwf : ∀ y ∈ x.wishes, y.wf
  uwf : ∀ y ∈ x.unlike, y.1 < 65536 ∧ y.2 < 65536
  i0 : I64 x.d0
  i1 : I64 x.d1
  i2 : I64 x.d2
  i3 : I64 x.d3
  i4 : I64 x.d4
  i5 : I64 x.d5
theorem DyeRd.below {w w' : World} {sA : Option Addr} {sc : Nat} {wA : Option Addr} {wc : Nat} {uA : Option Addr} {uc : Nat} {x : Dye} (h : DyeRd w sA sc wA wc uA uc x) (hb : Below w.heap.size w w') : DyeRd w' sA sc wA wc uA uc x :=
  ⟨h.sheet.below hb, h.wishes.below hb, h.wlen, h.wcap, h.unlike.below hb, h.ulen, h.ucap, h.wwf, h.uwf, h.i0, h.i1, h.i2, h.i3, h.i4, h.i5⟩
@[reducible] def dyeVal (sA : Option Addr) (sc : Nat) (wA : Option Addr) (wc : Nat) (uA : Option Addr) (uc : Nat) (x : Dye) : Value :=
  .agg #[.int .i64 x.sheet.pairs, .slice sA x.sheet.works.length sc, .slice wA x.wishes.length wc, .slice uA x.unlike.length uc, .int .i64 x.d0, .int .i64 x.d1, .int .i64 x.d2, .int .i64 x.d3, .int .i64 x.d4, .int .i64 x.d5]
theorem Rows.u16 {w : World} {A : Option Addr} {l : List (Nat × Nat)} (h : Rows w A 2 (l.map u16Cells)) {i : Nat} (hi : i < l.length) :
    ∃ b off, A = some ⟨b, off, none⟩ ∧ b < w.heap.size ∧ w.cell? ⟨b, off + i * 2, none⟩ = some (.int .u16 (l[i].1 : Nat)) ∧ w.cell? ⟨b, off + i * 2 + 1, none⟩ = some (.int .u16 (l[i].2 : Nat)) := by
  rcases h with h | ⟨b, off, hA, hlt, hc⟩
  · simp at h; subst h; simp at hi
  · have hr : (l.map u16Cells)[i]? = some (u16Cells l[i]) := by simp [hi]
    exact ⟨b, off, hA, hlt, hc i _ hr 0 _ rfl, hc i _ hr 1 _ rfl⟩
/-- It lies in a block. -/
structure DyeBox (w : World) (B : Nat) (sA : Option Addr) (sc : Nat) (wA : Option Addr) (wc : Nat) (uA : Option Addr) (uc : Nat) (x : Dye) : Prop where
  lt : B < w.heap.size
  z0 : w.cell? ⟨B, 0, none⟩ = some (.int .i64 x.sheet.pairs)
  z1 : w.cell? ⟨B, 1, none⟩ = some (.slice sA x.sheet.works.length sc)
  z2 : w.cell? ⟨B, 2, none⟩ = some (.slice wA x.wishes.length wc)
  z3 : w.cell? ⟨B, 3, none⟩ = some (.slice uA x.unlike.length uc)
  z4 : w.cell? ⟨B, 4, none⟩ = some (.int .i64 x.d0)
  z5 : w.cell? ⟨B, 5, none⟩ = some (.int .i64 x.d1)
  z6 : w.cell? ⟨B, 6, none⟩ = some (.int .i64 x.d2)
  z7 : w.cell? ⟨B, 7, none⟩ = some (.int .i64 x.d3)
  z8 : w.cell? ⟨B, 8, none⟩ = some (.int .i64 x.d4)
  z9 : w.cell? ⟨B, 9, none⟩ = some (.int .i64 x.d5)
theorem DyeBox.below {w w' : World} {B : Nat} {sA : Option Addr} {sc : Nat} {wA : Option Addr} {wc : Nat} {uA : Option Addr} {uc : Nat} {x : Dye} (h : DyeBox w B sA sc wA wc uA uc x) (hb : Below w.heap.size w w') : DyeBox w' B sA sc wA wc uA uc x :=
  have k : ∀ o, w'.cell? ⟨B, o, none⟩ = w.cell? ⟨B, o, none⟩ := fun o => hb.cell (p := ⟨B, o, none⟩) h.lt
  ⟨Nat.lt_of_lt_of_le h.lt hb.size, (k 0).trans h.z0, (k 1).trans h.z1, (k 2).trans h.z2, (k 3).trans h.z3, (k 4).trans h.z4, (k 5).trans h.z5, (k 6).trans h.z6, (k 7).trans h.z7, (k 8).trans h.z8, (k 9).trans h.z9⟩
theorem dyeBox_box (w : World) (sA : Option Addr) (sc : Nat) (wA : Option Addr) (wc : Nat) (uA : Option Addr) (uc : Nat) (x : Dye) (ty : TypeId) :
    DyeBox (w.alloc (.cells #[.int .i64 x.sheet.pairs, .slice sA x.sheet.works.length sc, .slice wA x.wishes.length wc, .slice uA x.unlike.length uc, .int .i64 x.d0, .int .i64 x.d1, .int .i64 x.d2, .int .i64 x.d3, .int .i64 x.d4, .int .i64 x.d5] ty)) w.heap.size sA sc wA wc uA uc x := by
  constructor <;> simp
/-- The cloth in its variable. -/
structure ClothBox (w : World) (B : Nat) (cA : Option Addr) (cc : Nat) (pA : Option Addr) (pc : Nat) (c : Cloth) : Prop where
  lt : B < w.heap.size
  z0 : w.cell? ⟨B, 0, none⟩ = some (.int .i64 c.threads)
  z1 : w.cell? ⟨B, 1, none⟩ = some (.slice cA c.crosses.length cc)
  z2 : w.cell? ⟨B, 2, none⟩ = some (.slice pA c.pins.length pc)
theorem ClothBox.below {w w' : World} {B : Nat} {cA : Option Addr} {cc : Nat} {pA : Option Addr} {pc : Nat} {c : Cloth} (h : ClothBox w B cA cc pA pc c) (hb : Below w.heap.size w w') : ClothBox w' B cA cc pA pc c :=
  have k : ∀ o, w'.cell? ⟨B, o, none⟩ = w.cell? ⟨B, o, none⟩ := fun o => hb.cell (p := ⟨B, o, none⟩) h.lt
  ⟨Nat.lt_of_lt_of_le h.lt hb.size, (k 0).trans h.z0, (k 1).trans h.z1, (k 2).trans h.z2⟩
theorem clothBox_box (w : World) (cA : Option Addr) (cc : Nat) (pA : Option Addr) (pc : Nat) (c : Cloth) (ty : TypeId) :
    ClothBox (w.alloc (.cells #[.int .i64 c.threads, .slice cA c.crosses.length cc, .slice pA c.pins.length pc] ty)) w.heap.size cA cc pA pc c := by
  constructor <;> simp

/-- What the region of an append needs: the slice, and the two numbers. -/
def TopQ (OB o n : Nat) (A : Option Addr) (c WB : Nat) (u v : Value) (w : World) : Prop :=
  w.cell? ⟨OB, o, none⟩ = some (.slice A n c) ∧ w.cell? ⟨WB, 0, none⟩ = some u ∧ w.cell? ⟨WB, 1, none⟩ = some v
theorem TopQ.keep {OB o n : Nat} {A : Option Addr} {c WB : Nat} {u v : Value} {w w' : World} (h : TopQ OB o n A c WB u v w) (h1 : w'.heap[OB]? = w.heap[OB]?) (h2 : w'.heap[WB]? = w.heap[WB]?) : TopQ OB o n A c WB u v w' :=
  ⟨(World.cell?_of_block (a := ⟨OB, o, none⟩) h1).trans h.1, (World.cell?_of_block (a := ⟨WB, 0, none⟩) h2).trans h.2.1, (World.cell?_of_block (a := ⟨WB, 1, none⟩) h2).trans h.2.2⟩

/-- The part of a code that begins with a region. -/
def firstReg : Code → Nat
  | .region k _ _ => k
  | .seq a _ => firstReg a
  | .block _ c => firstReg c
  | .loop c => firstReg c
  | .scope c => firstReg c
  | _ => 100000
def codeFrom (n : Nat) : Code → Option Code
  | .seq a b => if firstReg a = n then some (.seq a b) else match codeFrom n a with
    | some d => some d
    | none => codeFrom n b
  | .cond _ a b => match codeFrom n a with
    | some d => some d
    | none => codeFrom n b
  | .block _ c => codeFrom n c
  | .loop c => codeFrom n c
  | .scope c => codeFrom n c
  | _ => none
noncomputable def topK0 : Code := (Try.f3.body.bind (codeFrom 17)).getD .skip
noncomputable def topK1 : Code := (Try.f3.body.bind (codeFrom 23)).getD .skip
end Go.Proofs.Ytegbbkmppphddaa
