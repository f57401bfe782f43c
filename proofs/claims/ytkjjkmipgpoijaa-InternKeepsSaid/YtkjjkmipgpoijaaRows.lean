/-
  No cell of these rows narrows 'for every input' (looked for: loops, veiled, ifaces, maps, wideKeys, modest, calm, conditions, laid).
  DERIVED. THE GIVEN ROWS OF THIS SEAT. 4 by the template 'for every input the law returns true; each argument reads behind the call as it read before'; 0 by the template 'total and deterministic' (their statements: YtkjjkmipgpoijaaTotals.lean).
  GIVEN WITH THE SEED: the statements are not yours to turn. If you find one false, say at which input.
  Laid BY PROGRAM, IN A SANDBOX (cutbox-rows.mjs): the forced cells as the released guide's own fill.sh prints them over the translation 9a3fcf64272d05fb… (all of the seat's roots in one cut). By AI agents, Wed Nov 11 2026. No macro, syntax, notation, axiom, sorry.
-/
import Derived.Test.YtkjjkmipgpoijaaChecked
import GoSem.Claim
import GoSem.ClaimJoined
import GoSem.ClaimMapViews
import Derived.JoinedTies
import Derived.KernelRfl
namespace Go.Proofs.Ytkjjkmipgpoijaa
/- THE CELL 'sum', in the pinned program and in every row, IS THE sha256 OF THE DUMP (.gsa) THAT YtkjjkmipgpoijaaProg.lean LOADS. Nothing in Lean hashes anything: it is a label: what it is worth is what the hold of that sum in a sandbox is worth. -/
noncomputable def Try.pinned : Pinned := { name := "ytkjjkmipgpoijaa", sum := "9a3fcf64272d05fbadc6e9c1f3694d746d9ca534f57c9f9e48f5c0ab488a8532", checked := Try.checked }
namespace Rows
def none {H : Type} : Left H := { results := [], args := [] }

/-- 'burnishlaw04.InternHash': WHATEVER THE INPUT: true; the input reads as it did. -/
def internHashSpec : ChangeSpec := { name := "internHash", fn := fun _ => fun
  | [d1, d2, d3] => { results := [.lit (.bool true)], args := [d1, d2, d3] }
  | _ => none }
def internHashRow : OpenClaim := { program := "ytkjjkmipgpoijaa", sum := "9a3fcf64272d05fbadc6e9c1f3694d746d9ca534f57c9f9e48f5c0ab488a8532", func := "burnish/burnishlaw04.InternHash", spec := "internHash", apart := false }
def InternHashSaid : Prop := internHashRow.holds Try.pinned (OpenSpec.ofChange internHashSpec)

/-- ITS FALSE NEIGHBOUR: 'it returns false'. Refute it at one input. -/
def internHashWrong : ChangeSpec := { name := "internHash", fn := fun _ => fun
  | [d1, d2, d3] => { results := [.lit (.bool false)], args := [d1, d2, d3] }
  | _ => none }
def InternHashWrongFalsely : Prop := internHashRow.holds Try.pinned (OpenSpec.ofChange internHashWrong)

/-- 'burnishlaw04.InternRuns': WHATEVER THE INPUT: true; the input reads as it did. -/
def internRunsSpec : ChangeSpec := { name := "internRuns", fn := fun _ => fun
  | [d1, d2] => { results := [.lit (.bool true)], args := [d1, d2] }
  | _ => none }
def internRunsRow : OpenClaim := { program := "ytkjjkmipgpoijaa", sum := "9a3fcf64272d05fbadc6e9c1f3694d746d9ca534f57c9f9e48f5c0ab488a8532", func := "burnish/burnishlaw04.InternRuns", spec := "internRuns", apart := false }
def InternRunsSaid : Prop := internRunsRow.holds Try.pinned (OpenSpec.ofChange internRunsSpec)

/-- ITS FALSE NEIGHBOUR: 'it returns false'. Refute it at one input. -/
def internRunsWrong : ChangeSpec := { name := "internRuns", fn := fun _ => fun
  | [d1, d2] => { results := [.lit (.bool false)], args := [d1, d2] }
  | _ => none }
def InternRunsWrongFalsely : Prop := internRunsRow.holds Try.pinned (OpenSpec.ofChange internRunsWrong)

/-- 'burnishlaw04.InternKeeps': WHATEVER THE INPUT: true; the input reads as it did. -/
def internKeepsSpec : ChangeSpec := { name := "internKeeps", fn := fun _ => fun
  | [d] => { results := [.lit (.bool true)], args := [d] }
  | _ => none }
def internKeepsRow : OpenClaim := { program := "ytkjjkmipgpoijaa", sum := "9a3fcf64272d05fbadc6e9c1f3694d746d9ca534f57c9f9e48f5c0ab488a8532", func := "burnish/burnishlaw04.InternKeeps", spec := "internKeeps", apart := false }
def InternKeepsSaid : Prop := internKeepsRow.holds Try.pinned (OpenSpec.ofChange internKeepsSpec)

/-- ITS FALSE NEIGHBOUR: 'it returns false'. Refute it at one input. -/
def internKeepsWrong : ChangeSpec := { name := "internKeeps", fn := fun _ => fun
  | [d] => { results := [.lit (.bool false)], args := [d] }
  | _ => none }
def InternKeepsWrongFalsely : Prop := internKeepsRow.holds Try.pinned (OpenSpec.ofChange internKeepsWrong)

/-- 'burnishlaw04.InternNone': WHATEVER THE INPUT: true; the input reads as it did. -/
def internNoneSpec : ChangeSpec := { name := "internNone", fn := fun _ => fun
  | [d1, d2] => { results := [.lit (.bool true)], args := [d1, d2] }
  | _ => none }
def internNoneRow : OpenClaim := { program := "ytkjjkmipgpoijaa", sum := "9a3fcf64272d05fbadc6e9c1f3694d746d9ca534f57c9f9e48f5c0ab488a8532", func := "burnish/burnishlaw04.InternNone", spec := "internNone", apart := false }
def InternNoneSaid : Prop := internNoneRow.holds Try.pinned (OpenSpec.ofChange internNoneSpec)

/-- ITS FALSE NEIGHBOUR: 'it returns false'. Refute it at one input. -/
def internNoneWrong : ChangeSpec := { name := "internNone", fn := fun _ => fun
  | [d1, d2] => { results := [.lit (.bool false)], args := [d1, d2] }
  | _ => none }
def InternNoneWrongFalsely : Prop := internNoneRow.holds Try.pinned (OpenSpec.ofChange internNoneWrong)

/- THE SECOND FORM. 'bulk': how many values and letters a reading holds, each counted each time it is reached (what is shared counts as often as it is met; a slice's spare places count too). A statement '..UptoSaid' is the law's where the arguments, and the package variables that the reading takes, are together of bulk at most 1048576: NARROWER than '..Said'. Prove '..Said' where nothing that the law and all that it calls make is longer than what came in: it says more and counts as full. Else prove '..UptoSaid'. A law counts once. -/
mutual
def uptoBulk {H : Type} : DataW H → Nat
  | .lit (.string bytes) => bytes.length + 1
  | .lit _ => 1
  | .nil => 1
  | .ptr d => uptoBulk d + 1
  | .slice elems spare => uptoBulkAll elems + uptoBulkAll spare + 1
  | .agg parts => uptoBulkAll parts + 1
  | .iface _ d => uptoBulk d + 1
  | .map entries => uptoBulkEntries entries + 1
  | .held _ => 1
def uptoBulkAll {H : Type} : List (DataW H) → Nat
  | [] => 0
  | d :: r => uptoBulk d + uptoBulkAll r
def uptoBulkEntries {H : Type} : List (Lit × DataW H) → Nat
  | [] => 0
  | x :: r => uptoBulkEntry x + uptoBulkEntries r
def uptoBulkEntry {H : Type} : Lit × DataW H → Nat
  | (.string bytes, d) => bytes.length + uptoBulk d + 1
  | (_, d) => uptoBulk d + 1
 end
def uptoSmall : (H : Type) → List (DataW H) → Bool := fun _ ds => decide (uptoBulkAll ds ≤ 1048576)
def OpenSpec.upto (s : _root_.Go.ChangeSpec) : _root_.Go.OpenSpec := { _root_.Go.OpenSpec.ofChange s with cond := some uptoSmall }

/-- 'burnishlaw04.InternHash', WHERE WHAT IT READS IS OF BULK AT MOST 1048576: true; the input reads as it did. -/
def internHashUptoRow : OpenClaim := { program := "ytkjjkmipgpoijaa", sum := "9a3fcf64272d05fbadc6e9c1f3694d746d9ca534f57c9f9e48f5c0ab488a8532", func := "burnish/burnishlaw04.InternHash", spec := "internHash", apart := false, narrowed := true }
def InternHashUptoSaid : Prop := internHashUptoRow.holds Try.pinned (OpenSpec.upto internHashSpec)

/-- 'burnishlaw04.InternRuns', WHERE WHAT IT READS IS OF BULK AT MOST 1048576: true; the input reads as it did. -/
def internRunsUptoRow : OpenClaim := { program := "ytkjjkmipgpoijaa", sum := "9a3fcf64272d05fbadc6e9c1f3694d746d9ca534f57c9f9e48f5c0ab488a8532", func := "burnish/burnishlaw04.InternRuns", spec := "internRuns", apart := false, narrowed := true }
def InternRunsUptoSaid : Prop := internRunsUptoRow.holds Try.pinned (OpenSpec.upto internRunsSpec)

/-- 'burnishlaw04.InternKeeps', WHERE WHAT IT READS IS OF BULK AT MOST 1048576: true; the input reads as it did. -/
def internKeepsUptoRow : OpenClaim := { program := "ytkjjkmipgpoijaa", sum := "9a3fcf64272d05fbadc6e9c1f3694d746d9ca534f57c9f9e48f5c0ab488a8532", func := "burnish/burnishlaw04.InternKeeps", spec := "internKeeps", apart := false, narrowed := true }
def InternKeepsUptoSaid : Prop := internKeepsUptoRow.holds Try.pinned (OpenSpec.upto internKeepsSpec)

/-- 'burnishlaw04.InternNone', WHERE WHAT IT READS IS OF BULK AT MOST 1048576: true; the input reads as it did. -/
def internNoneUptoRow : OpenClaim := { program := "ytkjjkmipgpoijaa", sum := "9a3fcf64272d05fbadc6e9c1f3694d746d9ca534f57c9f9e48f5c0ab488a8532", func := "burnish/burnishlaw04.InternNone", spec := "internNone", apart := false, narrowed := true }
def InternNoneUptoSaid : Prop := internNoneUptoRow.holds Try.pinned (OpenSpec.upto internNoneSpec)

end Rows
end Go.Proofs.Ytkjjkmipgpoijaa
