/-
  No cell of these rows narrows 'for every input' (looked for: loops, veiled, ifaces, maps, wideKeys, modest, calm, conditions, laid).
  DERIVED. THE GIVEN ROWS OF THIS SEAT. 6 by the template 'for every input the law returns true; each argument reads behind the call as it read before'; 0 by the template 'total and deterministic' (their statements: YtbphjbfnnhfhlaaTotals.lean).
  GIVEN WITH THE SEED: the statements are not yours to turn. If you find one false, say at which input.
  Laid BY PROGRAM, IN A SANDBOX (cutbox-rows.mjs): the forced cells as the released guide's own fill.sh prints them over the translation 7ff76bdbb1987aa0… (all of the seat's roots in one cut). By AI agents, Wed Nov 11 2026. No macro, syntax, notation, axiom, sorry.
-/
import Derived.Test.YtbphjbfnnhfhlaaChecked
import GoSem.Claim
import GoSem.ClaimJoined
import GoSem.ClaimMapViews
import Derived.JoinedTies
import Derived.KernelRfl
namespace Go.Proofs.Ytbphjbfnnhfhlaa
/- THE CELL 'sum', in the pinned program and in every row, IS THE sha256 OF THE DUMP (.gsa) THAT YtbphjbfnnhfhlaaProg.lean LOADS. Nothing in Lean hashes anything: it is a label: what it is worth is what the hold of that sum in a sandbox is worth. -/
noncomputable def Try.pinned : Pinned := { name := "ytbphjbfnnhfhlaa", sum := "7ff76bdbb1987aa054aefda2d4bfabd9858433e705d3683ce922197912cec91f", checked := Try.checked }
namespace Rows
def none {H : Type} : Left H := { results := [], args := [] }

/-- 'burnishlaw08.DomtreeBuild': WHATEVER THE INPUT: true; the input reads as it did. -/
def domtreeBuildSpec : ChangeSpec := { name := "domtreeBuild", fn := fun _ => fun
  | [d1, d2] => { results := [.lit (.bool true)], args := [d1, d2] }
  | _ => none }
def domtreeBuildRow : OpenClaim := { program := "ytbphjbfnnhfhlaa", sum := "7ff76bdbb1987aa054aefda2d4bfabd9858433e705d3683ce922197912cec91f", func := "burnish/burnishlaw08.DomtreeBuild", spec := "domtreeBuild", unfollowed := true, recurses := true, apart := false }
def DomtreeBuildSaid : Prop := domtreeBuildRow.holds Try.pinned (OpenSpec.ofChange domtreeBuildSpec)

/-- ITS FALSE NEIGHBOUR: 'it returns false'. Refute it at one input. -/
def domtreeBuildWrong : ChangeSpec := { name := "domtreeBuild", fn := fun _ => fun
  | [d1, d2] => { results := [.lit (.bool false)], args := [d1, d2] }
  | _ => none }
def DomtreeBuildWrongFalsely : Prop := domtreeBuildRow.holds Try.pinned (OpenSpec.ofChange domtreeBuildWrong)

/-- 'burnishlaw08.DomtreePost': WHATEVER THE INPUT: true; the input reads as it did. -/
def domtreePostSpec : ChangeSpec := { name := "domtreePost", fn := fun _ => fun
  | [d] => { results := [.lit (.bool true)], args := [d] }
  | _ => none }
def domtreePostRow : OpenClaim := { program := "ytbphjbfnnhfhlaa", sum := "7ff76bdbb1987aa054aefda2d4bfabd9858433e705d3683ce922197912cec91f", func := "burnish/burnishlaw08.DomtreePost", spec := "domtreePost", unfollowed := true, recurses := true, apart := false }
def DomtreePostSaid : Prop := domtreePostRow.holds Try.pinned (OpenSpec.ofChange domtreePostSpec)

/-- ITS FALSE NEIGHBOUR: 'it returns false'. Refute it at one input. -/
def domtreePostWrong : ChangeSpec := { name := "domtreePost", fn := fun _ => fun
  | [d] => { results := [.lit (.bool false)], args := [d] }
  | _ => none }
def DomtreePostWrongFalsely : Prop := domtreePostRow.holds Try.pinned (OpenSpec.ofChange domtreePostWrong)

/-- 'burnishlaw08.DomtreeTree': WHATEVER THE INPUT: true; the input reads as it did. -/
def domtreeTreeSpec : ChangeSpec := { name := "domtreeTree", fn := fun _ => fun
  | [d1, d2] => { results := [.lit (.bool true)], args := [d1, d2] }
  | _ => none }
def domtreeTreeRow : OpenClaim := { program := "ytbphjbfnnhfhlaa", sum := "7ff76bdbb1987aa054aefda2d4bfabd9858433e705d3683ce922197912cec91f", func := "burnish/burnishlaw08.DomtreeTree", spec := "domtreeTree", unfollowed := true, recurses := true, apart := false }
def DomtreeTreeSaid : Prop := domtreeTreeRow.holds Try.pinned (OpenSpec.ofChange domtreeTreeSpec)

/-- ITS FALSE NEIGHBOUR: 'it returns false'. Refute it at one input. -/
def domtreeTreeWrong : ChangeSpec := { name := "domtreeTree", fn := fun _ => fun
  | [d1, d2] => { results := [.lit (.bool false)], args := [d1, d2] }
  | _ => none }
def DomtreeTreeWrongFalsely : Prop := domtreeTreeRow.holds Try.pinned (OpenSpec.ofChange domtreeTreeWrong)

/-- 'burnishlaw08.DomtreeRemoval': WHATEVER THE INPUT: true; the input reads as it did. -/
def domtreeRemovalSpec : ChangeSpec := { name := "domtreeRemoval", fn := fun _ => fun
  | [d1, d2, d3] => { results := [.lit (.bool true)], args := [d1, d2, d3] }
  | _ => none }
def domtreeRemovalRow : OpenClaim := { program := "ytbphjbfnnhfhlaa", sum := "7ff76bdbb1987aa054aefda2d4bfabd9858433e705d3683ce922197912cec91f", func := "burnish/burnishlaw08.DomtreeRemoval", spec := "domtreeRemoval", unfollowed := true, recurses := true, apart := false }
def DomtreeRemovalSaid : Prop := domtreeRemovalRow.holds Try.pinned (OpenSpec.ofChange domtreeRemovalSpec)

/-- ITS FALSE NEIGHBOUR: 'it returns false'. Refute it at one input. -/
def domtreeRemovalWrong : ChangeSpec := { name := "domtreeRemoval", fn := fun _ => fun
  | [d1, d2, d3] => { results := [.lit (.bool false)], args := [d1, d2, d3] }
  | _ => none }
def DomtreeRemovalWrongFalsely : Prop := domtreeRemovalRow.holds Try.pinned (OpenSpec.ofChange domtreeRemovalWrong)

/-- 'burnishlaw08.DomtreeCommon': WHATEVER THE INPUT: true; the input reads as it did. -/
def domtreeCommonSpec : ChangeSpec := { name := "domtreeCommon", fn := fun _ => fun
  | [d1, d2, d3, d4] => { results := [.lit (.bool true)], args := [d1, d2, d3, d4] }
  | _ => none }
def domtreeCommonRow : OpenClaim := { program := "ytbphjbfnnhfhlaa", sum := "7ff76bdbb1987aa054aefda2d4bfabd9858433e705d3683ce922197912cec91f", func := "burnish/burnishlaw08.DomtreeCommon", spec := "domtreeCommon", unfollowed := true, recurses := true, apart := false }
def DomtreeCommonSaid : Prop := domtreeCommonRow.holds Try.pinned (OpenSpec.ofChange domtreeCommonSpec)

/-- ITS FALSE NEIGHBOUR: 'it returns false'. Refute it at one input. -/
def domtreeCommonWrong : ChangeSpec := { name := "domtreeCommon", fn := fun _ => fun
  | [d1, d2, d3, d4] => { results := [.lit (.bool false)], args := [d1, d2, d3, d4] }
  | _ => none }
def DomtreeCommonWrongFalsely : Prop := domtreeCommonRow.holds Try.pinned (OpenSpec.ofChange domtreeCommonWrong)

/-- 'burnishlaw08.DomtreeQueries': WHATEVER THE INPUT: true; the input reads as it did. -/
def domtreeQueriesSpec : ChangeSpec := { name := "domtreeQueries", fn := fun _ => fun
  | [d1, d2, d3] => { results := [.lit (.bool true)], args := [d1, d2, d3] }
  | _ => none }
def domtreeQueriesRow : OpenClaim := { program := "ytbphjbfnnhfhlaa", sum := "7ff76bdbb1987aa054aefda2d4bfabd9858433e705d3683ce922197912cec91f", func := "burnish/burnishlaw08.DomtreeQueries", spec := "domtreeQueries", unfollowed := true, recurses := true, apart := false }
def DomtreeQueriesSaid : Prop := domtreeQueriesRow.holds Try.pinned (OpenSpec.ofChange domtreeQueriesSpec)

/-- ITS FALSE NEIGHBOUR: 'it returns false'. Refute it at one input. -/
def domtreeQueriesWrong : ChangeSpec := { name := "domtreeQueries", fn := fun _ => fun
  | [d1, d2, d3] => { results := [.lit (.bool false)], args := [d1, d2, d3] }
  | _ => none }
def DomtreeQueriesWrongFalsely : Prop := domtreeQueriesRow.holds Try.pinned (OpenSpec.ofChange domtreeQueriesWrong)

/- THE SECOND FORM. 'bulk': how many values and letters a reading holds, each counted each time it is reached (what is shared counts as often as it is met; a slice's spare places count too). A statement '..UptoSaid' is the law's where the arguments, and the package variables that the reading takes, are together of bulk at most 1048576: NARROWER than '..Said'. Prove '..Said' where nothing that the law and all that it calls make is longer than what came in: it says more and counts as full. Else prove '..UptoSaid'. A law counts once. -/
mutual
def uptoBulk {H : Type} : DataW H → Nat
  | .lit (.string bytes) => bytes.length + 1
  | .lit _ => 1
  | .nil => 1
  | .ptr d => uptoBulk d + 1
  | .slice elems spare => uptoBulkAll elems + uptoBulkAll spare + 1
  | .agg parts => uptoBulkAll parts + 1
  | .iface _ d => uptoBulk d + 1
  | .map entries => uptoBulkEntries entries + 1
  | .held _ => 1
def uptoBulkAll {H : Type} : List (DataW H) → Nat
  | [] => 0
  | d :: r => uptoBulk d + uptoBulkAll r
def uptoBulkEntries {H : Type} : List (Lit × DataW H) → Nat
  | [] => 0
  | x :: r => uptoBulkEntry x + uptoBulkEntries r
def uptoBulkEntry {H : Type} : Lit × DataW H → Nat
  | (.string bytes, d) => bytes.length + uptoBulk d + 1
  | (_, d) => uptoBulk d + 1
 end
def uptoSmall : (H : Type) → List (DataW H) → Bool := fun _ ds => decide (uptoBulkAll ds ≤ 1048576)
def OpenSpec.upto (s : _root_.Go.ChangeSpec) : _root_.Go.OpenSpec := { _root_.Go.OpenSpec.ofChange s with cond := some uptoSmall }

/-- 'burnishlaw08.DomtreeBuild', WHERE WHAT IT READS IS OF BULK AT MOST 1048576: true; the input reads as it did. -/
def domtreeBuildUptoRow : OpenClaim := { program := "ytbphjbfnnhfhlaa", sum := "7ff76bdbb1987aa054aefda2d4bfabd9858433e705d3683ce922197912cec91f", func := "burnish/burnishlaw08.DomtreeBuild", spec := "domtreeBuild", unfollowed := true, recurses := true, apart := false, narrowed := true }
def DomtreeBuildUptoSaid : Prop := domtreeBuildUptoRow.holds Try.pinned (OpenSpec.upto domtreeBuildSpec)

/-- 'burnishlaw08.DomtreePost', WHERE WHAT IT READS IS OF BULK AT MOST 1048576: true; the input reads as it did. -/
def domtreePostUptoRow : OpenClaim := { program := "ytbphjbfnnhfhlaa", sum := "7ff76bdbb1987aa054aefda2d4bfabd9858433e705d3683ce922197912cec91f", func := "burnish/burnishlaw08.DomtreePost", spec := "domtreePost", unfollowed := true, recurses := true, apart := false, narrowed := true }
def DomtreePostUptoSaid : Prop := domtreePostUptoRow.holds Try.pinned (OpenSpec.upto domtreePostSpec)

/-- 'burnishlaw08.DomtreeTree', WHERE WHAT IT READS IS OF BULK AT MOST 1048576: true; the input reads as it did. -/
def domtreeTreeUptoRow : OpenClaim := { program := "ytbphjbfnnhfhlaa", sum := "7ff76bdbb1987aa054aefda2d4bfabd9858433e705d3683ce922197912cec91f", func := "burnish/burnishlaw08.DomtreeTree", spec := "domtreeTree", unfollowed := true, recurses := true, apart := false, narrowed := true }
def DomtreeTreeUptoSaid : Prop := domtreeTreeUptoRow.holds Try.pinned (OpenSpec.upto domtreeTreeSpec)

/-- 'burnishlaw08.DomtreeRemoval', WHERE WHAT IT READS IS OF BULK AT MOST 1048576: true; the input reads as it did. -/
def domtreeRemovalUptoRow : OpenClaim := { program := "ytbphjbfnnhfhlaa", sum := "7ff76bdbb1987aa054aefda2d4bfabd9858433e705d3683ce922197912cec91f", func := "burnish/burnishlaw08.DomtreeRemoval", spec := "domtreeRemoval", unfollowed := true, recurses := true, apart := false, narrowed := true }
def DomtreeRemovalUptoSaid : Prop := domtreeRemovalUptoRow.holds Try.pinned (OpenSpec.upto domtreeRemovalSpec)

/-- 'burnishlaw08.DomtreeCommon', WHERE WHAT IT READS IS OF BULK AT MOST 1048576: true; the input reads as it did. -/
def domtreeCommonUptoRow : OpenClaim := { program := "ytbphjbfnnhfhlaa", sum := "7ff76bdbb1987aa054aefda2d4bfabd9858433e705d3683ce922197912cec91f", func := "burnish/burnishlaw08.DomtreeCommon", spec := "domtreeCommon", unfollowed := true, recurses := true, apart := false, narrowed := true }
def DomtreeCommonUptoSaid : Prop := domtreeCommonUptoRow.holds Try.pinned (OpenSpec.upto domtreeCommonSpec)

/-- 'burnishlaw08.DomtreeQueries', WHERE WHAT IT READS IS OF BULK AT MOST 1048576: true; the input reads as it did. -/
def domtreeQueriesUptoRow : OpenClaim := { program := "ytbphjbfnnhfhlaa", sum := "7ff76bdbb1987aa054aefda2d4bfabd9858433e705d3683ce922197912cec91f", func := "burnish/burnishlaw08.DomtreeQueries", spec := "domtreeQueries", unfollowed := true, recurses := true, apart := false, narrowed := true }
def DomtreeQueriesUptoSaid : Prop := domtreeQueriesUptoRow.holds Try.pinned (OpenSpec.upto domtreeQueriesSpec)

end Rows
end Go.Proofs.Ytbphjbfnnhfhlaa
