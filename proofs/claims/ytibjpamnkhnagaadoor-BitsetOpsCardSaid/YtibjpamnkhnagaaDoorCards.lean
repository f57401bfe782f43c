/-
  DERIVED. GIVEN WITH THE SEED: THE CARDS: each row of YtibjpamnkhnagaaDoorRows.lean that lists a variable, with what it lists TIED to the program's text (the seventh form; the later family's looks); each row that meets fmt, with fmt's text TOLD by the authors' own Lean function (tested against real Go, not proved from fmt's source: count such statements apart). THE CARD IS WHAT COUNTS. Prove the row's statement (the work); the ties are given (YtibjpamnkhnagaaDoorTie.lean); close each card by the builder's one call (the guide's Derived/Test/ToyasCard.lean, 'card_holds'). Laid BY PROGRAM, IN A SANDBOX (cutbox-door.mjs). By AI agents, Wed Nov 11 2026. No macro, syntax, notation, axiom, sorry.
-/
import Derived.Test.YtibjpamnkhnagaaDoorRows
import GoSem.ClaimSeven
namespace Go.Proofs.YtibjpamnkhnagaaDoor
namespace Rows

/-- THE TIED CARD OF 'burnishlaw03.BitsetCopies'. -/
def bitsetCopiesCard : Claim7 := { stood := { row := bitsetCopiesRow, standIns := [], harness := (true, "c7a4035617ba2d36e5aee737fd77ff8a837c1df770ca9049db7bf800a695ef37"), looks := false }, kinds := [], alts := [], laidByText := true, laidKinds := [.data], laidTests := true, laidLooks := .later }
def BitsetCopiesCardSaid : Prop := Claim7.holds Tryd.pinned (.plain (OpenSpec.ofChange bitsetCopiesSpec)) bitsetCopiesCard

/-- THE TIED CARD OF 'burnishlaw03.BitsetOps'. -/
def bitsetOpsCard : Claim7 := { stood := { row := bitsetOpsRow, standIns := [], harness := (true, "c7a4035617ba2d36e5aee737fd77ff8a837c1df770ca9049db7bf800a695ef37"), looks := false }, kinds := [], alts := [], laidByText := true, laidKinds := [.data], laidTests := true, laidLooks := .later }
def BitsetOpsCardSaid : Prop := Claim7.holds Tryd.pinned (.plain (OpenSpec.ofChange bitsetOpsSpec)) bitsetOpsCard

/-- THE TIED CARD OF 'burnishlaw03.BitsetAlgebra'. -/
def bitsetAlgebraCard : Claim7 := { stood := { row := bitsetAlgebraRow, standIns := [], harness := (true, "c7a4035617ba2d36e5aee737fd77ff8a837c1df770ca9049db7bf800a695ef37"), looks := false }, kinds := [], alts := [], laidByText := true, laidKinds := [.data], laidTests := true, laidLooks := .later }
def BitsetAlgebraCardSaid : Prop := Claim7.holds Tryd.pinned (.plain (OpenSpec.ofChange bitsetAlgebraSpec)) bitsetAlgebraCard

/-- THE TIED CARD OF 'burnishlaw03.BitsetNil'. -/
def bitsetNilCard : Claim7 := { stood := { row := bitsetNilRow, standIns := [], harness := (true, "c7a4035617ba2d36e5aee737fd77ff8a837c1df770ca9049db7bf800a695ef37"), looks := false }, kinds := [], alts := [], laidByText := true, laidKinds := [.data], laidTests := true, laidLooks := .later }
def BitsetNilCardSaid : Prop := Claim7.holds Tryd.pinned (.plain (OpenSpec.ofChange bitsetNilSpec)) bitsetNilCard

/-- THE SECOND FORM's CARD OF 'burnishlaw03.BitsetCopies'. -/
def bitsetCopiesUptoCard : Claim7 := { stood := { row := bitsetCopiesUptoRow, standIns := [], harness := (true, "c7a4035617ba2d36e5aee737fd77ff8a837c1df770ca9049db7bf800a695ef37"), looks := false }, kinds := [], alts := [], laidByText := true, laidKinds := [.data], laidTests := true, laidLooks := .later }
def BitsetCopiesUptoCardSaid : Prop := Claim7.holds Tryd.pinned (.plain (OpenSpec.upto bitsetCopiesSpec)) bitsetCopiesUptoCard

/-- THE SECOND FORM's CARD OF 'burnishlaw03.BitsetOps'. -/
def bitsetOpsUptoCard : Claim7 := { stood := { row := bitsetOpsUptoRow, standIns := [], harness := (true, "c7a4035617ba2d36e5aee737fd77ff8a837c1df770ca9049db7bf800a695ef37"), looks := false }, kinds := [], alts := [], laidByText := true, laidKinds := [.data], laidTests := true, laidLooks := .later }
def BitsetOpsUptoCardSaid : Prop := Claim7.holds Tryd.pinned (.plain (OpenSpec.upto bitsetOpsSpec)) bitsetOpsUptoCard

/-- THE SECOND FORM's CARD OF 'burnishlaw03.BitsetAlgebra'. -/
def bitsetAlgebraUptoCard : Claim7 := { stood := { row := bitsetAlgebraUptoRow, standIns := [], harness := (true, "c7a4035617ba2d36e5aee737fd77ff8a837c1df770ca9049db7bf800a695ef37"), looks := false }, kinds := [], alts := [], laidByText := true, laidKinds := [.data], laidTests := true, laidLooks := .later }
def BitsetAlgebraUptoCardSaid : Prop := Claim7.holds Tryd.pinned (.plain (OpenSpec.upto bitsetAlgebraSpec)) bitsetAlgebraUptoCard

/-- THE SECOND FORM's CARD OF 'burnishlaw03.BitsetNil'. -/
def bitsetNilUptoCard : Claim7 := { stood := { row := bitsetNilUptoRow, standIns := [], harness := (true, "c7a4035617ba2d36e5aee737fd77ff8a837c1df770ca9049db7bf800a695ef37"), looks := false }, kinds := [], alts := [], laidByText := true, laidKinds := [.data], laidTests := true, laidLooks := .later }
def BitsetNilUptoCardSaid : Prop := Claim7.holds Tryd.pinned (.plain (OpenSpec.upto bitsetNilSpec)) bitsetNilUptoCard
end Rows
end Go.Proofs.YtibjpamnkhnagaaDoor
