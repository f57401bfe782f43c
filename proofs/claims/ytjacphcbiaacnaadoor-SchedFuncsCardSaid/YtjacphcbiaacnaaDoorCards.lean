/-
  DERIVED. GIVEN WITH THE SEED: THE CARDS: each row of YtjacphcbiaacnaaDoorRows.lean that lists a variable, with what it lists TIED to the program's text (the seventh form; the later family's looks); each row that meets fmt, with fmt's text TOLD by the authors' own Lean function (tested against real Go, not proved from fmt's source: count such statements apart). THE CARD IS WHAT COUNTS. Prove the row's statement (the work); the ties are given (YtjacphcbiaacnaaDoorTie.lean); close each card by the builder's one call (the guide's Derived/Test/ToyasCard.lean, 'card_holds'). Laid BY PROGRAM, IN A SANDBOX (cutbox-door.mjs). By AI agents, Wed Nov 11 2026. No macro, syntax, notation, axiom, sorry.
-/
import Derived.Test.YtjacphcbiaacnaaDoorRows
import GoSem.ClaimSeven
namespace Go.Proofs.YtjacphcbiaacnaaDoor
namespace Rows

/-- THE TIED CARD OF 'burnishlaw52.SchedBlocks'. -/
def schedBlocksCard : Claim7 := { stood := { row := schedBlocksRow, standIns := [], harness := (true, "90dd4197b53a7f7da91902326b0c09272a486dc82a1189ca0bdd8f6f445cb0b5"), looks := false }, kinds := [], alts := [], laidByText := true, laidKinds := [.data], laidTests := true, laidLooks := .later }
def SchedBlocksCardSaid : Prop := Claim7.holds Tryd.pinned (.plain (OpenSpec.ofChange schedBlocksSpec)) schedBlocksCard

/-- THE TIED CARD OF 'burnishlaw52.SchedOrders'. -/
def schedOrdersCard : Claim7 := { stood := { row := schedOrdersRow, standIns := [], harness := (true, "90dd4197b53a7f7da91902326b0c09272a486dc82a1189ca0bdd8f6f445cb0b5"), looks := false }, kinds := [], alts := [], laidByText := true, laidKinds := [.data], laidTests := true, laidLooks := .later }
def SchedOrdersCardSaid : Prop := Claim7.holds Tryd.pinned (.plain (OpenSpec.ofChange schedOrdersSpec)) schedOrdersCard

/-- THE TIED CARD OF 'burnishlaw52.SchedDependences'. -/
def schedDependencesCard : Claim7 := { stood := { row := schedDependencesRow, standIns := [], harness := (true, "90dd4197b53a7f7da91902326b0c09272a486dc82a1189ca0bdd8f6f445cb0b5"), looks := false }, kinds := [], alts := [], laidByText := true, laidKinds := [.data], laidTests := true, laidLooks := .later }
def SchedDependencesCardSaid : Prop := Claim7.holds Tryd.pinned (.plain (OpenSpec.ofChange schedDependencesSpec)) schedDependencesCard

/-- THE TIED CARD OF 'burnishlaw52.SchedFuncs'. -/
def schedFuncsCard : Claim7 := { stood := { row := schedFuncsRow, standIns := [], harness := (true, "90dd4197b53a7f7da91902326b0c09272a486dc82a1189ca0bdd8f6f445cb0b5"), looks := false }, kinds := [], alts := [], laidByText := true, laidKinds := [.data], laidTests := true, laidLooks := .later }
def SchedFuncsCardSaid : Prop := Claim7.holds Tryd.pinned (.plain (OpenSpec.ofChange schedFuncsSpec)) schedFuncsCard

/-- THE SECOND FORM's CARD OF 'burnishlaw52.SchedBlocks'. -/
def schedBlocksUptoCard : Claim7 := { stood := { row := schedBlocksUptoRow, standIns := [], harness := (true, "90dd4197b53a7f7da91902326b0c09272a486dc82a1189ca0bdd8f6f445cb0b5"), looks := false }, kinds := [], alts := [], laidByText := true, laidKinds := [.data], laidTests := true, laidLooks := .later }
def SchedBlocksUptoCardSaid : Prop := Claim7.holds Tryd.pinned (.plain (OpenSpec.upto schedBlocksSpec)) schedBlocksUptoCard

/-- THE SECOND FORM's CARD OF 'burnishlaw52.SchedOrders'. -/
def schedOrdersUptoCard : Claim7 := { stood := { row := schedOrdersUptoRow, standIns := [], harness := (true, "90dd4197b53a7f7da91902326b0c09272a486dc82a1189ca0bdd8f6f445cb0b5"), looks := false }, kinds := [], alts := [], laidByText := true, laidKinds := [.data], laidTests := true, laidLooks := .later }
def SchedOrdersUptoCardSaid : Prop := Claim7.holds Tryd.pinned (.plain (OpenSpec.upto schedOrdersSpec)) schedOrdersUptoCard

/-- THE SECOND FORM's CARD OF 'burnishlaw52.SchedDependences'. -/
def schedDependencesUptoCard : Claim7 := { stood := { row := schedDependencesUptoRow, standIns := [], harness := (true, "90dd4197b53a7f7da91902326b0c09272a486dc82a1189ca0bdd8f6f445cb0b5"), looks := false }, kinds := [], alts := [], laidByText := true, laidKinds := [.data], laidTests := true, laidLooks := .later }
def SchedDependencesUptoCardSaid : Prop := Claim7.holds Tryd.pinned (.plain (OpenSpec.upto schedDependencesSpec)) schedDependencesUptoCard

/-- THE SECOND FORM's CARD OF 'burnishlaw52.SchedFuncs'. -/
def schedFuncsUptoCard : Claim7 := { stood := { row := schedFuncsUptoRow, standIns := [], harness := (true, "90dd4197b53a7f7da91902326b0c09272a486dc82a1189ca0bdd8f6f445cb0b5"), looks := false }, kinds := [], alts := [], laidByText := true, laidKinds := [.data], laidTests := true, laidLooks := .later }
def SchedFuncsUptoCardSaid : Prop := Claim7.holds Tryd.pinned (.plain (OpenSpec.upto schedFuncsSpec)) schedFuncsUptoCard
end Rows
end Go.Proofs.YtjacphcbiaacnaaDoor
