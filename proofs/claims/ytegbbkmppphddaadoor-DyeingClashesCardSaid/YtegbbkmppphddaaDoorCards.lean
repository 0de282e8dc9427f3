/-
  DERIVED. GIVEN WITH THE SEED: THE CARDS: each row of YtegbbkmppphddaaDoorRows.lean that lists a variable, with what it lists TIED to the program's text (the seventh form; the later family's looks); each row that meets fmt, with fmt's text TOLD by the authors' own Lean function (tested against real Go, not proved from fmt's source: count such statements apart). THE CARD IS WHAT COUNTS. Prove the row's statement (the work); the ties are given (YtegbbkmppphddaaDoorTie.lean); close each card by the builder's one call (the guide's Derived/Test/ToyasCard.lean, 'card_holds'). Laid BY PROGRAM, IN A SANDBOX (cutbox-door.mjs). By AI agents, Wed Nov 11 2026. No macro, syntax, notation, axiom, sorry.
-/
import Derived.Test.YtegbbkmppphddaaDoorRows
import GoSem.ClaimSeven
namespace Go.Proofs.YtegbbkmppphddaaDoor
namespace Rows

/-- THE TIED CARD OF 'torchonlaw22.DyeingSolves'. -/
def dyeingSolvesCard : Claim7 := { stood := { row := dyeingSolvesRow, standIns := [], harness := (true, "29347425850756fcaa8a94ce99155a591366952eb82987194fccba930598c1b0"), looks := false }, kinds := [], alts := [], laidByText := true, laidKinds := [.data, .data], laidTests := true, laidLooks := .later }
def DyeingSolvesCardSaid : Prop := Claim7.holds Tryd.pinned (.plain (OpenSpec.ofChange dyeingSolvesSpec)) dyeingSolvesCard

/-- THE TIED CARD OF 'torchonlaw22.DyeingClash'. -/
def dyeingClashCard : Claim7 := { stood := { row := dyeingClashRow, standIns := [], harness := (true, "29347425850756fcaa8a94ce99155a591366952eb82987194fccba930598c1b0"), looks := false }, kinds := [], alts := [], laidByText := true, laidKinds := [.data, .data], laidTests := true, laidLooks := .later }
def DyeingClashCardSaid : Prop := Claim7.holds Tryd.pinned (.plain (OpenSpec.ofChange dyeingClashSpec)) dyeingClashCard

/-- THE TIED CARD OF 'torchonlaw22.DyeingLeast'. -/
def dyeingLeastCard : Claim7 := { stood := { row := dyeingLeastRow, standIns := [], harness := (true, "29347425850756fcaa8a94ce99155a591366952eb82987194fccba930598c1b0"), looks := false }, kinds := [], alts := [], laidByText := true, laidKinds := [.data, .data], laidTests := true, laidLooks := .later }
def DyeingLeastCardSaid : Prop := Claim7.holds Tryd.pinned (.plain (OpenSpec.ofChange dyeingLeastSpec)) dyeingLeastCard

/-- THE TIED CARD OF 'torchonlaw22.DyeingClashes'. -/
def dyeingClashesCard : Claim7 := { stood := { row := dyeingClashesRow, standIns := [], harness := (true, "29347425850756fcaa8a94ce99155a591366952eb82987194fccba930598c1b0"), looks := false }, kinds := [], alts := [], laidByText := true, laidKinds := [.data, .data], laidTests := true, laidLooks := .later }
def DyeingClashesCardSaid : Prop := Claim7.holds Tryd.pinned (.plain (OpenSpec.ofChange dyeingClashesSpec)) dyeingClashesCard

/-- THE TIED CARD OF 'torchonlaw22.DyeingMore'. -/
def dyeingMoreCard : Claim7 := { stood := { row := dyeingMoreRow, standIns := [], harness := (true, "29347425850756fcaa8a94ce99155a591366952eb82987194fccba930598c1b0"), looks := false }, kinds := [], alts := [], laidByText := true, laidKinds := [.data, .data], laidTests := true, laidLooks := .later }
def DyeingMoreCardSaid : Prop := Claim7.holds Tryd.pinned (.plain (OpenSpec.ofChange dyeingMoreSpec)) dyeingMoreCard

/-- THE TIED CARD OF 'torchonlaw22.DyeingMeets'. -/
def dyeingMeetsCard : Claim7 := { stood := { row := dyeingMeetsRow, standIns := [], harness := (true, "29347425850756fcaa8a94ce99155a591366952eb82987194fccba930598c1b0"), looks := false }, kinds := [], alts := [], laidByText := true, laidKinds := [.data, .data], laidTests := true, laidLooks := .later }
def DyeingMeetsCardSaid : Prop := Claim7.holds Tryd.pinned (.plain (OpenSpec.ofChange dyeingMeetsSpec)) dyeingMeetsCard

/-- THE SECOND FORM's CARD OF 'torchonlaw22.DyeingSolves'. -/
def dyeingSolvesUptoCard : Claim7 := { stood := { row := dyeingSolvesUptoRow, standIns := [], harness := (true, "29347425850756fcaa8a94ce99155a591366952eb82987194fccba930598c1b0"), looks := false }, kinds := [], alts := [], laidByText := true, laidKinds := [.data, .data], laidTests := true, laidLooks := .later }
def DyeingSolvesUptoCardSaid : Prop := Claim7.holds Tryd.pinned (.plain (OpenSpec.upto dyeingSolvesSpec)) dyeingSolvesUptoCard

/-- THE SECOND FORM's CARD OF 'torchonlaw22.DyeingClash'. -/
def dyeingClashUptoCard : Claim7 := { stood := { row := dyeingClashUptoRow, standIns := [], harness := (true, "29347425850756fcaa8a94ce99155a591366952eb82987194fccba930598c1b0"), looks := false }, kinds := [], alts := [], laidByText := true, laidKinds := [.data, .data], laidTests := true, laidLooks := .later }
def DyeingClashUptoCardSaid : Prop := Claim7.holds Tryd.pinned (.plain (OpenSpec.upto dyeingClashSpec)) dyeingClashUptoCard

/-- THE SECOND FORM's CARD OF 'torchonlaw22.DyeingLeast'. -/
def dyeingLeastUptoCard : Claim7 := { stood := { row := dyeingLeastUptoRow, standIns := [], harness := (true, "29347425850756fcaa8a94ce99155a591366952eb82987194fccba930598c1b0"), looks := false }, kinds := [], alts := [], laidByText := true, laidKinds := [.data, .data], laidTests := true, laidLooks := .later }
def DyeingLeastUptoCardSaid : Prop := Claim7.holds Tryd.pinned (.plain (OpenSpec.upto dyeingLeastSpec)) dyeingLeastUptoCard

/-- THE SECOND FORM's CARD OF 'torchonlaw22.DyeingClashes'. -/
def dyeingClashesUptoCard : Claim7 := { stood := { row := dyeingClashesUptoRow, standIns := [], harness := (true, "29347425850756fcaa8a94ce99155a591366952eb82987194fccba930598c1b0"), looks := false }, kinds := [], alts := [], laidByText := true, laidKinds := [.data, .data], laidTests := true, laidLooks := .later }
def DyeingClashesUptoCardSaid : Prop := Claim7.holds Tryd.pinned (.plain (OpenSpec.upto dyeingClashesSpec)) dyeingClashesUptoCard

/-- THE SECOND FORM's CARD OF 'torchonlaw22.DyeingMore'. -/
def dyeingMoreUptoCard : Claim7 := { stood := { row := dyeingMoreUptoRow, standIns := [], harness := (true, "29347425850756fcaa8a94ce99155a591366952eb82987194fccba930598c1b0"), looks := false }, kinds := [], alts := [], laidByText := true, laidKinds := [.data, .data], laidTests := true, laidLooks := .later }
def DyeingMoreUptoCardSaid : Prop := Claim7.holds Tryd.pinned (.plain (OpenSpec.upto dyeingMoreSpec)) dyeingMoreUptoCard

/-- THE SECOND FORM's CARD OF 'torchonlaw22.DyeingMeets'. -/
def dyeingMeetsUptoCard : Claim7 := { stood := { row := dyeingMeetsUptoRow, standIns := [], harness := (true, "29347425850756fcaa8a94ce99155a591366952eb82987194fccba930598c1b0"), looks := false }, kinds := [], alts := [], laidByText := true, laidKinds := [.data, .data], laidTests := true, laidLooks := .later }
def DyeingMeetsUptoCardSaid : Prop := Claim7.holds Tryd.pinned (.plain (OpenSpec.upto dyeingMeetsSpec)) dyeingMeetsUptoCard
end Rows
end Go.Proofs.YtegbbkmppphddaaDoor
