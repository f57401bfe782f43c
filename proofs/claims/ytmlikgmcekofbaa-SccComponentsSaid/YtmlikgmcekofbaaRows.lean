/-
  No cell of these rows narrows 'for every input' (looked for: loops, veiled, ifaces, maps, wideKeys, modest, calm, conditions, laid).
  DERIVED. THE GIVEN ROWS OF THIS SEAT. 4 by the template 'for every input the law returns true; each argument reads behind the call as it read before'; 0 by the template 'total and deterministic' (their statements: YtmlikgmcekofbaaTotals.lean).
  GIVEN WITH THE SEED: the statements are not yours to turn. If you find one false, say at which input.
  Laid BY PROGRAM, IN A SANDBOX (cutbox-rows.mjs): the forced cells as the released guide's own fill.sh prints them over the translation d3f782232eec32f3… (all of the seat's roots in one cut). By AI agents, Wed Nov 11 2026. No macro, syntax, notation, axiom, sorry.
-/
import Derived.Test.YtmlikgmcekofbaaChecked
import GoSem.Claim
import GoSem.ClaimJoined
import GoSem.ClaimMapViews
import Derived.JoinedTies
import Derived.KernelRfl
namespace Go.Proofs.Ytmlikgmcekofbaa
/- THE CELL 'sum', in the pinned program and in every row, IS THE sha256 OF THE DUMP (.gsa) THAT YtmlikgmcekofbaaProg.lean LOADS. Nothing in Lean hashes anything: it is a label: what it is worth is what the hold of that sum in a sandbox is worth. -/
noncomputable def Try.pinned : Pinned := { name := "ytmlikgmcekofbaa", sum := "d3f782232eec32f38ae6cdd43c244b03d69c81f9b63034a5d74319a21e15d997", checked := Try.checked }
namespace Rows
def none {H : Type} : Left H := { results := [], args := [] }

/-- 'burnishlaw07.SccComponents': WHATEVER THE INPUT: true; the input reads as it did. -/
def sccComponentsSpec : ChangeSpec := { name := "sccComponents", fn := fun _ => fun
  | [d] => { results := [.lit (.bool true)], args := [d] }
  | _ => none }
def sccComponentsRow : OpenClaim := { program := "ytmlikgmcekofbaa", sum := "d3f782232eec32f38ae6cdd43c244b03d69c81f9b63034a5d74319a21e15d997", func := "burnish/burnishlaw07.SccComponents", spec := "sccComponents", inPlace := ["slices.overlaps[int]"], unfollowed := true, recurses := true, apart := false }
def SccComponentsSaid : Prop := sccComponentsRow.holds Try.pinned (OpenSpec.ofChange sccComponentsSpec)

/-- ITS FALSE NEIGHBOUR: 'it returns false'. Refute it at one input. -/
def sccComponentsWrong : ChangeSpec := { name := "sccComponents", fn := fun _ => fun
  | [d] => { results := [.lit (.bool false)], args := [d] }
  | _ => none }
def SccComponentsWrongFalsely : Prop := sccComponentsRow.holds Try.pinned (OpenSpec.ofChange sccComponentsWrong)

/-- 'burnishlaw07.SccOnCycle': WHATEVER THE INPUT: true; the input reads as it did. -/
def sccOnCycleSpec : ChangeSpec := { name := "sccOnCycle", fn := fun _ => fun
  | [d] => { results := [.lit (.bool true)], args := [d] }
  | _ => none }
def sccOnCycleRow : OpenClaim := { program := "ytmlikgmcekofbaa", sum := "d3f782232eec32f38ae6cdd43c244b03d69c81f9b63034a5d74319a21e15d997", func := "burnish/burnishlaw07.SccOnCycle", spec := "sccOnCycle", inPlace := ["slices.overlaps[int]"], unfollowed := true, recurses := true, apart := false }
def SccOnCycleSaid : Prop := sccOnCycleRow.holds Try.pinned (OpenSpec.ofChange sccOnCycleSpec)

/-- ITS FALSE NEIGHBOUR: 'it returns false'. Refute it at one input. -/
def sccOnCycleWrong : ChangeSpec := { name := "sccOnCycle", fn := fun _ => fun
  | [d] => { results := [.lit (.bool false)], args := [d] }
  | _ => none }
def SccOnCycleWrongFalsely : Prop := sccOnCycleRow.holds Try.pinned (OpenSpec.ofChange sccOnCycleWrong)

/-- 'burnishlaw07.SccOrders': WHATEVER THE INPUT: true; the input reads as it did. -/
def sccOrdersSpec : ChangeSpec := { name := "sccOrders", fn := fun _ => fun
  | [d] => { results := [.lit (.bool true)], args := [d] }
  | _ => none }
def sccOrdersRow : OpenClaim := { program := "ytmlikgmcekofbaa", sum := "d3f782232eec32f38ae6cdd43c244b03d69c81f9b63034a5d74319a21e15d997", func := "burnish/burnishlaw07.SccOrders", spec := "sccOrders", inPlace := ["slices.overlaps[int]"], unfollowed := true, recurses := true, apart := false }
def SccOrdersSaid : Prop := sccOrdersRow.holds Try.pinned (OpenSpec.ofChange sccOrdersSpec)

/-- ITS FALSE NEIGHBOUR: 'it returns false'. Refute it at one input. -/
def sccOrdersWrong : ChangeSpec := { name := "sccOrders", fn := fun _ => fun
  | [d] => { results := [.lit (.bool false)], args := [d] }
  | _ => none }
def SccOrdersWrongFalsely : Prop := sccOrdersRow.holds Try.pinned (OpenSpec.ofChange sccOrdersWrong)

/-- 'burnishlaw07.SccContracts': WHATEVER THE INPUT: true; the input reads as it did. -/
def sccContractsSpec : ChangeSpec := { name := "sccContracts", fn := fun _ => fun
  | [d] => { results := [.lit (.bool true)], args := [d] }
  | _ => none }
def sccContractsRow : OpenClaim := { program := "ytmlikgmcekofbaa", sum := "d3f782232eec32f38ae6cdd43c244b03d69c81f9b63034a5d74319a21e15d997", func := "burnish/burnishlaw07.SccContracts", spec := "sccContracts", inPlace := ["slices.overlaps[int]"], unfollowed := true, recurses := true, apart := false }
def SccContractsSaid : Prop := sccContractsRow.holds Try.pinned (OpenSpec.ofChange sccContractsSpec)

/-- ITS FALSE NEIGHBOUR: 'it returns false'. Refute it at one input. -/
def sccContractsWrong : ChangeSpec := { name := "sccContracts", fn := fun _ => fun
  | [d] => { results := [.lit (.bool false)], args := [d] }
  | _ => none }
def SccContractsWrongFalsely : Prop := sccContractsRow.holds Try.pinned (OpenSpec.ofChange sccContractsWrong)

/- THE SECOND FORM. 'bulk': how many values and letters a reading holds, each counted each time it is reached (what is shared counts as often as it is met; a slice's spare places count too). A statement '..UptoSaid' is the law's where the arguments, and the package variables that the reading takes, are together of bulk at most 1048576: NARROWER than '..Said'. Prove '..Said' where nothing that the law and all that it calls make is longer than what came in: it says more and counts as full. Else prove '..UptoSaid'. A law counts once. -/
mutual
def uptoBulk {H : Type} : DataW H → Nat
  | .lit (.string bytes) => bytes.length + 1
  | .lit _ => 1
  | .nil => 1
  | .ptr d => uptoBulk d + 1
  | .slice elems spare => uptoBulkAll elems + uptoBulkAll spare + 1
  | .agg parts => uptoBulkAll parts + 1
  | .iface _ d => uptoBulk d + 1
  | .map entries => uptoBulkEntries entries + 1
  | .held _ => 1
def uptoBulkAll {H : Type} : List (DataW H) → Nat
  | [] => 0
  | d :: r => uptoBulk d + uptoBulkAll r
def uptoBulkEntries {H : Type} : List (Lit × DataW H) → Nat
  | [] => 0
  | x :: r => uptoBulkEntry x + uptoBulkEntries r
def uptoBulkEntry {H : Type} : Lit × DataW H → Nat
  | (.string bytes, d) => bytes.length + uptoBulk d + 1
  | (_, d) => uptoBulk d + 1
 end
def uptoSmall : (H : Type) → List (DataW H) → Bool := fun _ ds => decide (uptoBulkAll ds ≤ 1048576)
def OpenSpec.upto (s : _root_.Go.ChangeSpec) : _root_.Go.OpenSpec := { _root_.Go.OpenSpec.ofChange s with cond := some uptoSmall }

/-- 'burnishlaw07.SccComponents', WHERE WHAT IT READS IS OF BULK AT MOST 1048576: true; the input reads as it did. -/
def sccComponentsUptoRow : OpenClaim := { program := "ytmlikgmcekofbaa", sum := "d3f782232eec32f38ae6cdd43c244b03d69c81f9b63034a5d74319a21e15d997", func := "burnish/burnishlaw07.SccComponents", spec := "sccComponents", inPlace := ["slices.overlaps[int]"], unfollowed := true, recurses := true, apart := false, narrowed := true }
def SccComponentsUptoSaid : Prop := sccComponentsUptoRow.holds Try.pinned (OpenSpec.upto sccComponentsSpec)

/-- 'burnishlaw07.SccOnCycle', WHERE WHAT IT READS IS OF BULK AT MOST 1048576: true; the input reads as it did. -/
def sccOnCycleUptoRow : OpenClaim := { program := "ytmlikgmcekofbaa", sum := "d3f782232eec32f38ae6cdd43c244b03d69c81f9b63034a5d74319a21e15d997", func := "burnish/burnishlaw07.SccOnCycle", spec := "sccOnCycle", inPlace := ["slices.overlaps[int]"], unfollowed := true, recurses := true, apart := false, narrowed := true }
def SccOnCycleUptoSaid : Prop := sccOnCycleUptoRow.holds Try.pinned (OpenSpec.upto sccOnCycleSpec)

/-- 'burnishlaw07.SccOrders', WHERE WHAT IT READS IS OF BULK AT MOST 1048576: true; the input reads as it did. -/
def sccOrdersUptoRow : OpenClaim := { program := "ytmlikgmcekofbaa", sum := "d3f782232eec32f38ae6cdd43c244b03d69c81f9b63034a5d74319a21e15d997", func := "burnish/burnishlaw07.SccOrders", spec := "sccOrders", inPlace := ["slices.overlaps[int]"], unfollowed := true, recurses := true, apart := false, narrowed := true }
def SccOrdersUptoSaid : Prop := sccOrdersUptoRow.holds Try.pinned (OpenSpec.upto sccOrdersSpec)

/-- 'burnishlaw07.SccContracts', WHERE WHAT IT READS IS OF BULK AT MOST 1048576: true; the input reads as it did. -/
def sccContractsUptoRow : OpenClaim := { program := "ytmlikgmcekofbaa", sum := "d3f782232eec32f38ae6cdd43c244b03d69c81f9b63034a5d74319a21e15d997", func := "burnish/burnishlaw07.SccContracts", spec := "sccContracts", inPlace := ["slices.overlaps[int]"], unfollowed := true, recurses := true, apart := false, narrowed := true }
def SccContractsUptoSaid : Prop := sccContractsUptoRow.holds Try.pinned (OpenSpec.upto sccContractsSpec)

end Rows
end Go.Proofs.Ytmlikgmcekofbaa
