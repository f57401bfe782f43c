/-
  No cell of these rows narrows 'for every input' (looked for: loops, veiled, ifaces, maps, wideKeys, modest, calm, conditions, laid).
  DERIVED. THE GIVEN ROWS OF THIS SEAT. 6 by the template 'for every input the law returns true; each argument reads behind the call as it read before'; 0 by the template 'total and deterministic' (their statements: YtjcekelmbpenkaaTotals.lean).
  GIVEN WITH THE SEED: the statements are not yours to turn. If you find one false, say at which input.
  Laid BY PROGRAM, IN A SANDBOX (cutbox-rows.mjs): the forced cells as the released guide's own fill.sh prints them over the translation 0f58e0b8c1d9d720… (all of the seat's roots in one cut). By AI agents, Wed Nov 11 2026. No macro, syntax, notation, axiom, sorry.
-/
import Derived.Test.YtjcekelmbpenkaaChecked
import GoSem.Claim
import GoSem.ClaimJoined
import GoSem.ClaimMapViews
import Derived.JoinedTies
import Derived.KernelRfl
namespace Go.Proofs.Ytjcekelmbpenkaa
/- THE CELL 'sum', in the pinned program and in every row, IS THE sha256 OF THE DUMP (.gsa) THAT YtjcekelmbpenkaaProg.lean LOADS. Nothing in Lean hashes anything: it is a label: what it is worth is what the hold of that sum in a sandbox is worth. -/
noncomputable def Try.pinned : Pinned := { name := "ytjcekelmbpenkaa", sum := "0f58e0b8c1d9d72098d628e0737a26546efbbfad211a9bfc4b745408d046f330", checked := Try.checked }
namespace Rows
def none {H : Type} : Left H := { results := [], args := [] }

/-- 'burnishlaw02.VarintPrefix': WHATEVER THE INPUT: true; the input reads as it did. -/
def varintPrefixSpec : ChangeSpec := { name := "varintPrefix", fn := fun _ => fun
  | [d1, d2] => { results := [.lit (.bool true)], args := [d1, d2] }
  | _ => none }
def varintPrefixRow : OpenClaim := { program := "ytjcekelmbpenkaa", sum := "0f58e0b8c1d9d72098d628e0737a26546efbbfad211a9bfc4b745408d046f330", func := "burnish/burnishlaw02.VarintPrefix", spec := "varintPrefix", unfollowed := true, recurses := true, apart := false }
def VarintPrefixSaid : Prop := varintPrefixRow.holds Try.pinned (OpenSpec.ofChange varintPrefixSpec)

/-- ITS FALSE NEIGHBOUR: 'it returns false'. Refute it at one input. -/
def varintPrefixWrong : ChangeSpec := { name := "varintPrefix", fn := fun _ => fun
  | [d1, d2] => { results := [.lit (.bool false)], args := [d1, d2] }
  | _ => none }
def VarintPrefixWrongFalsely : Prop := varintPrefixRow.holds Try.pinned (OpenSpec.ofChange varintPrefixWrong)

/-- 'burnishlaw02.VarintReads': WHATEVER THE INPUT: true; the input reads as it did. -/
def varintReadsSpec : ChangeSpec := { name := "varintReads", fn := fun _ => fun
  | [d1, d2] => { results := [.lit (.bool true)], args := [d1, d2] }
  | _ => none }
def varintReadsRow : OpenClaim := { program := "ytjcekelmbpenkaa", sum := "0f58e0b8c1d9d72098d628e0737a26546efbbfad211a9bfc4b745408d046f330", func := "burnish/burnishlaw02.VarintReads", spec := "varintReads", unfollowed := true, recurses := true, apart := false }
def VarintReadsSaid : Prop := varintReadsRow.holds Try.pinned (OpenSpec.ofChange varintReadsSpec)

/-- ITS FALSE NEIGHBOUR: 'it returns false'. Refute it at one input. -/
def varintReadsWrong : ChangeSpec := { name := "varintReads", fn := fun _ => fun
  | [d1, d2] => { results := [.lit (.bool false)], args := [d1, d2] }
  | _ => none }
def VarintReadsWrongFalsely : Prop := varintReadsRow.holds Try.pinned (OpenSpec.ofChange varintReadsWrong)

/-- 'burnishlaw02.VarintAppends': WHATEVER THE INPUT: true; the input reads as it did. -/
def varintAppendsSpec : ChangeSpec := { name := "varintAppends", fn := fun _ => fun
  | [d1, d2, d3] => { results := [.lit (.bool true)], args := [d1, d2, d3] }
  | _ => none }
def varintAppendsRow : OpenClaim := { program := "ytjcekelmbpenkaa", sum := "0f58e0b8c1d9d72098d628e0737a26546efbbfad211a9bfc4b745408d046f330", func := "burnish/burnishlaw02.VarintAppends", spec := "varintAppends", unfollowed := true, recurses := true, apart := false }
def VarintAppendsSaid : Prop := varintAppendsRow.holds Try.pinned (OpenSpec.ofChange varintAppendsSpec)

/-- ITS FALSE NEIGHBOUR: 'it returns false'. Refute it at one input. -/
def varintAppendsWrong : ChangeSpec := { name := "varintAppends", fn := fun _ => fun
  | [d1, d2, d3] => { results := [.lit (.bool false)], args := [d1, d2, d3] }
  | _ => none }
def VarintAppendsWrongFalsely : Prop := varintAppendsRow.holds Try.pinned (OpenSpec.ofChange varintAppendsWrong)

/-- 'burnishlaw02.VarintOwn': WHATEVER THE INPUT: true; the input reads as it did. -/
def varintOwnSpec : ChangeSpec := { name := "varintOwn", fn := fun _ => fun
  | [d1, d2] => { results := [.lit (.bool true)], args := [d1, d2] }
  | _ => none }
def varintOwnRow : OpenClaim := { program := "ytjcekelmbpenkaa", sum := "0f58e0b8c1d9d72098d628e0737a26546efbbfad211a9bfc4b745408d046f330", func := "burnish/burnishlaw02.VarintOwn", spec := "varintOwn", unfollowed := true, recurses := true, apart := false }
def VarintOwnSaid : Prop := varintOwnRow.holds Try.pinned (OpenSpec.ofChange varintOwnSpec)

/-- ITS FALSE NEIGHBOUR: 'it returns false'. Refute it at one input. -/
def varintOwnWrong : ChangeSpec := { name := "varintOwn", fn := fun _ => fun
  | [d1, d2] => { results := [.lit (.bool false)], args := [d1, d2] }
  | _ => none }
def VarintOwnWrongFalsely : Prop := varintOwnRow.holds Try.pinned (OpenSpec.ofChange varintOwnWrong)

/-- 'burnishlaw02.VarintRound': WHATEVER THE INPUT: true; the input reads as it did. -/
def varintRoundSpec : ChangeSpec := { name := "varintRound", fn := fun _ => fun
  | [d1, d2, d3] => { results := [.lit (.bool true)], args := [d1, d2, d3] }
  | _ => none }
def varintRoundRow : OpenClaim := { program := "ytjcekelmbpenkaa", sum := "0f58e0b8c1d9d72098d628e0737a26546efbbfad211a9bfc4b745408d046f330", func := "burnish/burnishlaw02.VarintRound", spec := "varintRound", unfollowed := true, recurses := true, apart := false }
def VarintRoundSaid : Prop := varintRoundRow.holds Try.pinned (OpenSpec.ofChange varintRoundSpec)

/-- ITS FALSE NEIGHBOUR: 'it returns false'. Refute it at one input. -/
def varintRoundWrong : ChangeSpec := { name := "varintRound", fn := fun _ => fun
  | [d1, d2, d3] => { results := [.lit (.bool false)], args := [d1, d2, d3] }
  | _ => none }
def VarintRoundWrongFalsely : Prop := varintRoundRow.holds Try.pinned (OpenSpec.ofChange varintRoundWrong)

/-- 'burnishlaw02.VarintCanonical': WHATEVER THE INPUT: true; the input reads as it did. -/
def varintCanonicalSpec : ChangeSpec := { name := "varintCanonical", fn := fun _ => fun
  | [d] => { results := [.lit (.bool true)], args := [d] }
  | _ => none }
def varintCanonicalRow : OpenClaim := { program := "ytjcekelmbpenkaa", sum := "0f58e0b8c1d9d72098d628e0737a26546efbbfad211a9bfc4b745408d046f330", func := "burnish/burnishlaw02.VarintCanonical", spec := "varintCanonical", unfollowed := true, recurses := true, apart := false }
def VarintCanonicalSaid : Prop := varintCanonicalRow.holds Try.pinned (OpenSpec.ofChange varintCanonicalSpec)

/-- ITS FALSE NEIGHBOUR: 'it returns false'. Refute it at one input. -/
def varintCanonicalWrong : ChangeSpec := { name := "varintCanonical", fn := fun _ => fun
  | [d] => { results := [.lit (.bool false)], args := [d] }
  | _ => none }
def VarintCanonicalWrongFalsely : Prop := varintCanonicalRow.holds Try.pinned (OpenSpec.ofChange varintCanonicalWrong)

/- THE SECOND FORM. 'bulk': how many values and letters a reading holds, each counted each time it is reached (what is shared counts as often as it is met; a slice's spare places count too). A statement '..UptoSaid' is the law's where the arguments, and the package variables that the reading takes, are together of bulk at most 1048576: NARROWER than '..Said'. Prove '..Said' where nothing that the law and all that it calls make is longer than what came in: it says more and counts as full. Else prove '..UptoSaid'. A law counts once. -/
mutual
def uptoBulk {H : Type} : DataW H → Nat
  | .lit (.string bytes) => bytes.length + 1
  | .lit _ => 1
  | .nil => 1
  | .ptr d => uptoBulk d + 1
  | .slice elems spare => uptoBulkAll elems + uptoBulkAll spare + 1
  | .agg parts => uptoBulkAll parts + 1
  | .iface _ d => uptoBulk d + 1
  | .map entries => uptoBulkEntries entries + 1
  | .held _ => 1
def uptoBulkAll {H : Type} : List (DataW H) → Nat
  | [] => 0
  | d :: r => uptoBulk d + uptoBulkAll r
def uptoBulkEntries {H : Type} : List (Lit × DataW H) → Nat
  | [] => 0
  | x :: r => uptoBulkEntry x + uptoBulkEntries r
def uptoBulkEntry {H : Type} : Lit × DataW H → Nat
  | (.string bytes, d) => bytes.length + uptoBulk d + 1
  | (_, d) => uptoBulk d + 1
 end
def uptoSmall : (H : Type) → List (DataW H) → Bool := fun _ ds => decide (uptoBulkAll ds ≤ 1048576)
def OpenSpec.upto (s : _root_.Go.ChangeSpec) : _root_.Go.OpenSpec := { _root_.Go.OpenSpec.ofChange s with cond := some uptoSmall }

/-- 'burnishlaw02.VarintPrefix', WHERE WHAT IT READS IS OF BULK AT MOST 1048576: true; the input reads as it did. -/
def varintPrefixUptoRow : OpenClaim := { program := "ytjcekelmbpenkaa", sum := "0f58e0b8c1d9d72098d628e0737a26546efbbfad211a9bfc4b745408d046f330", func := "burnish/burnishlaw02.VarintPrefix", spec := "varintPrefix", unfollowed := true, recurses := true, apart := false, narrowed := true }
def VarintPrefixUptoSaid : Prop := varintPrefixUptoRow.holds Try.pinned (OpenSpec.upto varintPrefixSpec)

/-- 'burnishlaw02.VarintReads', WHERE WHAT IT READS IS OF BULK AT MOST 1048576: true; the input reads as it did. -/
def varintReadsUptoRow : OpenClaim := { program := "ytjcekelmbpenkaa", sum := "0f58e0b8c1d9d72098d628e0737a26546efbbfad211a9bfc4b745408d046f330", func := "burnish/burnishlaw02.VarintReads", spec := "varintReads", unfollowed := true, recurses := true, apart := false, narrowed := true }
def VarintReadsUptoSaid : Prop := varintReadsUptoRow.holds Try.pinned (OpenSpec.upto varintReadsSpec)

/-- 'burnishlaw02.VarintAppends', WHERE WHAT IT READS IS OF BULK AT MOST 1048576: true; the input reads as it did. -/
def varintAppendsUptoRow : OpenClaim := { program := "ytjcekelmbpenkaa", sum := "0f58e0b8c1d9d72098d628e0737a26546efbbfad211a9bfc4b745408d046f330", func := "burnish/burnishlaw02.VarintAppends", spec := "varintAppends", unfollowed := true, recurses := true, apart := false, narrowed := true }
def VarintAppendsUptoSaid : Prop := varintAppendsUptoRow.holds Try.pinned (OpenSpec.upto varintAppendsSpec)

/-- 'burnishlaw02.VarintOwn', WHERE WHAT IT READS IS OF BULK AT MOST 1048576: true; the input reads as it did. -/
def varintOwnUptoRow : OpenClaim := { program := "ytjcekelmbpenkaa", sum := "0f58e0b8c1d9d72098d628e0737a26546efbbfad211a9bfc4b745408d046f330", func := "burnish/burnishlaw02.VarintOwn", spec := "varintOwn", unfollowed := true, recurses := true, apart := false, narrowed := true }
def VarintOwnUptoSaid : Prop := varintOwnUptoRow.holds Try.pinned (OpenSpec.upto varintOwnSpec)

/-- 'burnishlaw02.VarintRound', WHERE WHAT IT READS IS OF BULK AT MOST 1048576: true; the input reads as it did. -/
def varintRoundUptoRow : OpenClaim := { program := "ytjcekelmbpenkaa", sum := "0f58e0b8c1d9d72098d628e0737a26546efbbfad211a9bfc4b745408d046f330", func := "burnish/burnishlaw02.VarintRound", spec := "varintRound", unfollowed := true, recurses := true, apart := false, narrowed := true }
def VarintRoundUptoSaid : Prop := varintRoundUptoRow.holds Try.pinned (OpenSpec.upto varintRoundSpec)

/-- 'burnishlaw02.VarintCanonical', WHERE WHAT IT READS IS OF BULK AT MOST 1048576: true; the input reads as it did. -/
def varintCanonicalUptoRow : OpenClaim := { program := "ytjcekelmbpenkaa", sum := "0f58e0b8c1d9d72098d628e0737a26546efbbfad211a9bfc4b745408d046f330", func := "burnish/burnishlaw02.VarintCanonical", spec := "varintCanonical", unfollowed := true, recurses := true, apart := false, narrowed := true }
def VarintCanonicalUptoSaid : Prop := varintCanonicalUptoRow.holds Try.pinned (OpenSpec.upto varintCanonicalSpec)

end Rows
end Go.Proofs.Ytjcekelmbpenkaa
