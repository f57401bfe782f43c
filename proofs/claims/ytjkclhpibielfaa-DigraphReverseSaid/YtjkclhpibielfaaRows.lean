/-
  No cell of these rows narrows 'for every input' (looked for: loops, veiled, ifaces, maps, wideKeys, modest, calm, conditions, laid).
  DERIVED. THE GIVEN ROWS OF THIS SEAT. 4 by the template 'for every input the law returns true; each argument reads behind the call as it read before'; 0 by the template 'total and deterministic' (their statements: YtjkclhpibielfaaTotals.lean).
  GIVEN WITH THE SEED: the statements are not yours to turn. If you find one false, say at which input.
  Laid BY PROGRAM, IN A SANDBOX (cutbox-rows.mjs): the forced cells as the released guide's own fill.sh prints them over the translation ab73868ad76112fd… (all of the seat's roots in one cut). By AI agents, Wed Nov 11 2026. No macro, syntax, notation, axiom, sorry.
-/
import Derived.Test.YtjkclhpibielfaaChecked
import GoSem.Claim
import GoSem.ClaimJoined
import GoSem.ClaimMapViews
import Derived.JoinedTies
import Derived.KernelRfl
namespace Go.Proofs.Ytjkclhpibielfaa
/- THE CELL 'sum', in the pinned program and in every row, IS THE sha256 OF THE DUMP (.gsa) THAT YtjkclhpibielfaaProg.lean LOADS. Nothing in Lean hashes anything: it is a label: what it is worth is what the hold of that sum in a sandbox is worth. -/
noncomputable def Try.pinned : Pinned := { name := "ytjkclhpibielfaa", sum := "ab73868ad76112fdc3c0ad1c1901b239c70be02d7936ae8e33afa19acefe3f51", checked := Try.checked }
namespace Rows
def none {H : Type} : Left H := { results := [], args := [] }

/-- 'burnishlaw06.DigraphTells': WHATEVER THE INPUT: true; the input reads as it did. -/
def digraphTellsSpec : ChangeSpec := { name := "digraphTells", fn := fun _ => fun
  | [d1, d2, d3] => { results := [.lit (.bool true)], args := [d1, d2, d3] }
  | _ => none }
def digraphTellsRow : OpenClaim := { program := "ytjkclhpibielfaa", sum := "ab73868ad76112fdc3c0ad1c1901b239c70be02d7936ae8e33afa19acefe3f51", func := "burnish/burnishlaw06.DigraphTells", spec := "digraphTells", unfollowed := true, recurses := true, apart := false }
def DigraphTellsSaid : Prop := digraphTellsRow.holds Try.pinned (OpenSpec.ofChange digraphTellsSpec)

/-- ITS FALSE NEIGHBOUR: 'it returns false'. Refute it at one input. -/
def digraphTellsWrong : ChangeSpec := { name := "digraphTells", fn := fun _ => fun
  | [d1, d2, d3] => { results := [.lit (.bool false)], args := [d1, d2, d3] }
  | _ => none }
def DigraphTellsWrongFalsely : Prop := digraphTellsRow.holds Try.pinned (OpenSpec.ofChange digraphTellsWrong)

/-- 'burnishlaw06.DigraphOrder': WHATEVER THE INPUT: true; the input reads as it did. -/
def digraphOrderSpec : ChangeSpec := { name := "digraphOrder", fn := fun _ => fun
  | [d1, d2] => { results := [.lit (.bool true)], args := [d1, d2] }
  | _ => none }
def digraphOrderRow : OpenClaim := { program := "ytjkclhpibielfaa", sum := "ab73868ad76112fdc3c0ad1c1901b239c70be02d7936ae8e33afa19acefe3f51", func := "burnish/burnishlaw06.DigraphOrder", spec := "digraphOrder", unfollowed := true, recurses := true, apart := false }
def DigraphOrderSaid : Prop := digraphOrderRow.holds Try.pinned (OpenSpec.ofChange digraphOrderSpec)

/-- ITS FALSE NEIGHBOUR: 'it returns false'. Refute it at one input. -/
def digraphOrderWrong : ChangeSpec := { name := "digraphOrder", fn := fun _ => fun
  | [d1, d2] => { results := [.lit (.bool false)], args := [d1, d2] }
  | _ => none }
def DigraphOrderWrongFalsely : Prop := digraphOrderRow.holds Try.pinned (OpenSpec.ofChange digraphOrderWrong)

/-- 'burnishlaw06.DigraphShortest': WHATEVER THE INPUT: true; the input reads as it did. -/
def digraphShortestSpec : ChangeSpec := { name := "digraphShortest", fn := fun _ => fun
  | [d1, d2, d3] => { results := [.lit (.bool true)], args := [d1, d2, d3] }
  | _ => none }
def digraphShortestRow : OpenClaim := { program := "ytjkclhpibielfaa", sum := "ab73868ad76112fdc3c0ad1c1901b239c70be02d7936ae8e33afa19acefe3f51", func := "burnish/burnishlaw06.DigraphShortest", spec := "digraphShortest", unfollowed := true, recurses := true, apart := false }
def DigraphShortestSaid : Prop := digraphShortestRow.holds Try.pinned (OpenSpec.ofChange digraphShortestSpec)

/-- ITS FALSE NEIGHBOUR: 'it returns false'. Refute it at one input. -/
def digraphShortestWrong : ChangeSpec := { name := "digraphShortest", fn := fun _ => fun
  | [d1, d2, d3] => { results := [.lit (.bool false)], args := [d1, d2, d3] }
  | _ => none }
def DigraphShortestWrongFalsely : Prop := digraphShortestRow.holds Try.pinned (OpenSpec.ofChange digraphShortestWrong)

/-- 'burnishlaw06.DigraphReverse': WHATEVER THE INPUT: true; the input reads as it did. -/
def digraphReverseSpec : ChangeSpec := { name := "digraphReverse", fn := fun _ => fun
  | [d1, d2, d3] => { results := [.lit (.bool true)], args := [d1, d2, d3] }
  | _ => none }
def digraphReverseRow : OpenClaim := { program := "ytjkclhpibielfaa", sum := "ab73868ad76112fdc3c0ad1c1901b239c70be02d7936ae8e33afa19acefe3f51", func := "burnish/burnishlaw06.DigraphReverse", spec := "digraphReverse", unfollowed := true, recurses := true, apart := false }
def DigraphReverseSaid : Prop := digraphReverseRow.holds Try.pinned (OpenSpec.ofChange digraphReverseSpec)

/-- ITS FALSE NEIGHBOUR: 'it returns false'. Refute it at one input. -/
def digraphReverseWrong : ChangeSpec := { name := "digraphReverse", fn := fun _ => fun
  | [d1, d2, d3] => { results := [.lit (.bool false)], args := [d1, d2, d3] }
  | _ => none }
def DigraphReverseWrongFalsely : Prop := digraphReverseRow.holds Try.pinned (OpenSpec.ofChange digraphReverseWrong)

/- THE SECOND FORM. 'bulk': how many values and letters a reading holds, each counted each time it is reached (what is shared counts as often as it is met; a slice's spare places count too). A statement '..UptoSaid' is the law's where the arguments, and the package variables that the reading takes, are together of bulk at most 1048576: NARROWER than '..Said'. Prove '..Said' where nothing that the law and all that it calls make is longer than what came in: it says more and counts as full. Else prove '..UptoSaid'. A law counts once. -/
mutual
def uptoBulk {H : Type} : DataW H → Nat
  | .lit (.string bytes) => bytes.length + 1
  | .lit _ => 1
  | .nil => 1
  | .ptr d => uptoBulk d + 1
  | .slice elems spare => uptoBulkAll elems + uptoBulkAll spare + 1
  | .agg parts => uptoBulkAll parts + 1
  | .iface _ d => uptoBulk d + 1
  | .map entries => uptoBulkEntries entries + 1
  | .held _ => 1
def uptoBulkAll {H : Type} : List (DataW H) → Nat
  | [] => 0
  | d :: r => uptoBulk d + uptoBulkAll r
def uptoBulkEntries {H : Type} : List (Lit × DataW H) → Nat
  | [] => 0
  | x :: r => uptoBulkEntry x + uptoBulkEntries r
def uptoBulkEntry {H : Type} : Lit × DataW H → Nat
  | (.string bytes, d) => bytes.length + uptoBulk d + 1
  | (_, d) => uptoBulk d + 1
 end
def uptoSmall : (H : Type) → List (DataW H) → Bool := fun _ ds => decide (uptoBulkAll ds ≤ 1048576)
def OpenSpec.upto (s : _root_.Go.ChangeSpec) : _root_.Go.OpenSpec := { _root_.Go.OpenSpec.ofChange s with cond := some uptoSmall }

/-- 'burnishlaw06.DigraphTells', WHERE WHAT IT READS IS OF BULK AT MOST 1048576: true; the input reads as it did. -/
def digraphTellsUptoRow : OpenClaim := { program := "ytjkclhpibielfaa", sum := "ab73868ad76112fdc3c0ad1c1901b239c70be02d7936ae8e33afa19acefe3f51", func := "burnish/burnishlaw06.DigraphTells", spec := "digraphTells", unfollowed := true, recurses := true, apart := false, narrowed := true }
def DigraphTellsUptoSaid : Prop := digraphTellsUptoRow.holds Try.pinned (OpenSpec.upto digraphTellsSpec)

/-- 'burnishlaw06.DigraphOrder', WHERE WHAT IT READS IS OF BULK AT MOST 1048576: true; the input reads as it did. -/
def digraphOrderUptoRow : OpenClaim := { program := "ytjkclhpibielfaa", sum := "ab73868ad76112fdc3c0ad1c1901b239c70be02d7936ae8e33afa19acefe3f51", func := "burnish/burnishlaw06.DigraphOrder", spec := "digraphOrder", unfollowed := true, recurses := true, apart := false, narrowed := true }
def DigraphOrderUptoSaid : Prop := digraphOrderUptoRow.holds Try.pinned (OpenSpec.upto digraphOrderSpec)

/-- 'burnishlaw06.DigraphShortest', WHERE WHAT IT READS IS OF BULK AT MOST 1048576: true; the input reads as it did. -/
def digraphShortestUptoRow : OpenClaim := { program := "ytjkclhpibielfaa", sum := "ab73868ad76112fdc3c0ad1c1901b239c70be02d7936ae8e33afa19acefe3f51", func := "burnish/burnishlaw06.DigraphShortest", spec := "digraphShortest", unfollowed := true, recurses := true, apart := false, narrowed := true }
def DigraphShortestUptoSaid : Prop := digraphShortestUptoRow.holds Try.pinned (OpenSpec.upto digraphShortestSpec)

/-- 'burnishlaw06.DigraphReverse', WHERE WHAT IT READS IS OF BULK AT MOST 1048576: true; the input reads as it did. -/
def digraphReverseUptoRow : OpenClaim := { program := "ytjkclhpibielfaa", sum := "ab73868ad76112fdc3c0ad1c1901b239c70be02d7936ae8e33afa19acefe3f51", func := "burnish/burnishlaw06.DigraphReverse", spec := "digraphReverse", unfollowed := true, recurses := true, apart := false, narrowed := true }
def DigraphReverseUptoSaid : Prop := digraphReverseUptoRow.holds Try.pinned (OpenSpec.upto digraphReverseSpec)

end Rows
end Go.Proofs.Ytjkclhpibielfaa
