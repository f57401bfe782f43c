/-
  NARROWER THAN 'FOR EVERY INPUT', by the rows' own cells (each row's printed sentence says how): SchedBlocks: laid · SchedOrders: laid · SchedDependences: laid · SchedFuncs: laid.
  DERIVED. THE GIVEN ROWS OF THIS SEAT. 4 by the template 'for every input the law returns true; each argument reads behind the call as it read before'; 0 by the template 'total and deterministic' (their statements: YtjacphcbiaacnaaDoorTotals.lean).
  GIVEN WITH THE SEED: the statements are not yours to turn. If you find one false, say at which input.
  Laid BY PROGRAM, IN A SANDBOX (cutbox-rows.mjs): the forced cells as the released guide's own fill.sh prints them over the translation d7ceb4b55a939159… (all of the seat's roots in one cut). By AI agents, Wed Nov 11 2026. No macro, syntax, notation, axiom, sorry.
-/
import Derived.Test.YtjacphcbiaacnaaDoorChecked
import GoSem.Claim
import GoSem.ClaimJoined
import GoSem.ClaimMapViews
import Derived.JoinedTies
import Derived.KernelRfl
namespace Go.Proofs.YtjacphcbiaacnaaDoor
/- THE CELL 'sum', in the pinned program and in every row, IS THE sha256 OF THE DUMP (.gsa) THAT YtjacphcbiaacnaaDoorProg.lean LOADS. Nothing in Lean hashes anything: it is a label: what it is worth is what the hold of that sum in a sandbox is worth. -/
noncomputable def Tryd.pinned : Pinned := { name := "ytjacphcbiaacnaadoor", sum := "d7ceb4b55a9391594bde7fa84cee928ab4d3d4902b2acc7d21ea160933017404", checked := Tryd.checked }
namespace Rows
def none {H : Type} : Left H := { results := [], args := [] }

/- WHAT THE LISTED PACKAGE-LEVEL VARIABLES READ AS WHEN THE CALL BEGINS. Each datum BY PROGRAM (the guide's laid-datum.mjs) off the statement by which the dump's own 'gosem.cut.vars' lays the variable. In a bare row this is a premise. The card (YtjacphcbiaacnaaDoorCards.lean) ties it to the program's text. -/
def laid_burnish_sched_none {H : Type} : DataW H := .agg [.lit (.int .i64 (-1)), .lit (.int .i64 (-1))]

/-- 'burnishlaw52.SchedBlocks': WHATEVER THE INPUT: true; the input reads as it did. -/
def schedBlocksSpec : ChangeSpec := { name := "schedBlocks", fn := fun _ => fun
  | [d1, d2] => { results := [.lit (.bool true)], args := [d1, d2] }
  | _ => none }
def schedBlocksRow : OpenClaim := { program := "ytjacphcbiaacnaadoor", sum := "d7ceb4b55a9391594bde7fa84cee928ab4d3d4902b2acc7d21ea160933017404", func := "burnish/burnishlaw52.SchedBlocks", spec := "schedBlocks", unfollowed := true, recurses := true, named := ["burnish/sched.none"], apart := false, laid := [("burnish/sched.none", laid_burnish_sched_none)] }
def SchedBlocksSaid : Prop := schedBlocksRow.holds Tryd.pinned (OpenSpec.ofChange schedBlocksSpec)

/-- ITS FALSE NEIGHBOUR: 'it returns false'. Refute it at one input. -/
def schedBlocksWrong : ChangeSpec := { name := "schedBlocks", fn := fun _ => fun
  | [d1, d2] => { results := [.lit (.bool false)], args := [d1, d2] }
  | _ => none }
def SchedBlocksWrongFalsely : Prop := schedBlocksRow.holds Tryd.pinned (OpenSpec.ofChange schedBlocksWrong)

/-- 'burnishlaw52.SchedOrders': WHATEVER THE INPUT: true; the input reads as it did. -/
def schedOrdersSpec : ChangeSpec := { name := "schedOrders", fn := fun _ => fun
  | [d1, d2] => { results := [.lit (.bool true)], args := [d1, d2] }
  | _ => none }
def schedOrdersRow : OpenClaim := { program := "ytjacphcbiaacnaadoor", sum := "d7ceb4b55a9391594bde7fa84cee928ab4d3d4902b2acc7d21ea160933017404", func := "burnish/burnishlaw52.SchedOrders", spec := "schedOrders", unfollowed := true, recurses := true, named := ["burnish/sched.none"], apart := false, laid := [("burnish/sched.none", laid_burnish_sched_none)] }
def SchedOrdersSaid : Prop := schedOrdersRow.holds Tryd.pinned (OpenSpec.ofChange schedOrdersSpec)

/-- ITS FALSE NEIGHBOUR: 'it returns false'. Refute it at one input. -/
def schedOrdersWrong : ChangeSpec := { name := "schedOrders", fn := fun _ => fun
  | [d1, d2] => { results := [.lit (.bool false)], args := [d1, d2] }
  | _ => none }
def SchedOrdersWrongFalsely : Prop := schedOrdersRow.holds Tryd.pinned (OpenSpec.ofChange schedOrdersWrong)

/-- 'burnishlaw52.SchedDependences': WHATEVER THE INPUT: true; the input reads as it did. -/
def schedDependencesSpec : ChangeSpec := { name := "schedDependences", fn := fun _ => fun
  | [d] => { results := [.lit (.bool true)], args := [d] }
  | _ => none }
def schedDependencesRow : OpenClaim := { program := "ytjacphcbiaacnaadoor", sum := "d7ceb4b55a9391594bde7fa84cee928ab4d3d4902b2acc7d21ea160933017404", func := "burnish/burnishlaw52.SchedDependences", spec := "schedDependences", unfollowed := true, recurses := true, named := ["burnish/sched.none"], apart := false, laid := [("burnish/sched.none", laid_burnish_sched_none)] }
def SchedDependencesSaid : Prop := schedDependencesRow.holds Tryd.pinned (OpenSpec.ofChange schedDependencesSpec)

/-- ITS FALSE NEIGHBOUR: 'it returns false'. Refute it at one input. -/
def schedDependencesWrong : ChangeSpec := { name := "schedDependences", fn := fun _ => fun
  | [d] => { results := [.lit (.bool false)], args := [d] }
  | _ => none }
def SchedDependencesWrongFalsely : Prop := schedDependencesRow.holds Tryd.pinned (OpenSpec.ofChange schedDependencesWrong)

/-- 'burnishlaw52.SchedFuncs': WHATEVER THE INPUT: true; the input reads as it did. -/
def schedFuncsSpec : ChangeSpec := { name := "schedFuncs", fn := fun _ => fun
  | [d1, d2] => { results := [.lit (.bool true)], args := [d1, d2] }
  | _ => none }
def schedFuncsRow : OpenClaim := { program := "ytjacphcbiaacnaadoor", sum := "d7ceb4b55a9391594bde7fa84cee928ab4d3d4902b2acc7d21ea160933017404", func := "burnish/burnishlaw52.SchedFuncs", spec := "schedFuncs", unfollowed := true, recurses := true, named := ["burnish/sched.none"], apart := false, laid := [("burnish/sched.none", laid_burnish_sched_none)] }
def SchedFuncsSaid : Prop := schedFuncsRow.holds Tryd.pinned (OpenSpec.ofChange schedFuncsSpec)

/-- ITS FALSE NEIGHBOUR: 'it returns false'. Refute it at one input. -/
def schedFuncsWrong : ChangeSpec := { name := "schedFuncs", fn := fun _ => fun
  | [d1, d2] => { results := [.lit (.bool false)], args := [d1, d2] }
  | _ => none }
def SchedFuncsWrongFalsely : Prop := schedFuncsRow.holds Tryd.pinned (OpenSpec.ofChange schedFuncsWrong)

/- THE SECOND FORM. 'bulk': how many values and letters a reading holds, each counted each time it is reached (what is shared counts as often as it is met; a slice's spare places count too). A statement '..UptoSaid' is the law's where the arguments, and the package variables that the reading takes, are together of bulk at most 1048576: NARROWER than '..Said'. Prove '..Said' where nothing that the law and all that it calls make is longer than what came in: it says more and counts as full. Else prove '..UptoSaid'. A law counts once. -/
mutual
def uptoBulk {H : Type} : DataW H → Nat
  | .lit (.string bytes) => bytes.length + 1
  | .lit _ => 1
  | .nil => 1
  | .ptr d => uptoBulk d + 1
  | .slice elems spare => uptoBulkAll elems + uptoBulkAll spare + 1
  | .agg parts => uptoBulkAll parts + 1
  | .iface _ d => uptoBulk d + 1
  | .map entries => uptoBulkEntries entries + 1
  | .held _ => 1
def uptoBulkAll {H : Type} : List (DataW H) → Nat
  | [] => 0
  | d :: r => uptoBulk d + uptoBulkAll r
def uptoBulkEntries {H : Type} : List (Lit × DataW H) → Nat
  | [] => 0
  | x :: r => uptoBulkEntry x + uptoBulkEntries r
def uptoBulkEntry {H : Type} : Lit × DataW H → Nat
  | (.string bytes, d) => bytes.length + uptoBulk d + 1
  | (_, d) => uptoBulk d + 1
 end
def uptoSmall : (H : Type) → List (DataW H) → Bool := fun _ ds => decide (uptoBulkAll ds ≤ 1048576)
def OpenSpec.upto (s : _root_.Go.ChangeSpec) : _root_.Go.OpenSpec := { _root_.Go.OpenSpec.ofChange s with cond := some uptoSmall }

/-- 'burnishlaw52.SchedBlocks', WHERE WHAT IT READS IS OF BULK AT MOST 1048576: true; the input reads as it did. -/
def schedBlocksUptoRow : OpenClaim := { program := "ytjacphcbiaacnaadoor", sum := "d7ceb4b55a9391594bde7fa84cee928ab4d3d4902b2acc7d21ea160933017404", func := "burnish/burnishlaw52.SchedBlocks", spec := "schedBlocks", unfollowed := true, recurses := true, named := ["burnish/sched.none"], apart := false, laid := [("burnish/sched.none", laid_burnish_sched_none)], narrowed := true }
def SchedBlocksUptoSaid : Prop := schedBlocksUptoRow.holds Tryd.pinned (OpenSpec.upto schedBlocksSpec)

/-- 'burnishlaw52.SchedOrders', WHERE WHAT IT READS IS OF BULK AT MOST 1048576: true; the input reads as it did. -/
def schedOrdersUptoRow : OpenClaim := { program := "ytjacphcbiaacnaadoor", sum := "d7ceb4b55a9391594bde7fa84cee928ab4d3d4902b2acc7d21ea160933017404", func := "burnish/burnishlaw52.SchedOrders", spec := "schedOrders", unfollowed := true, recurses := true, named := ["burnish/sched.none"], apart := false, laid := [("burnish/sched.none", laid_burnish_sched_none)], narrowed := true }
def SchedOrdersUptoSaid : Prop := schedOrdersUptoRow.holds Tryd.pinned (OpenSpec.upto schedOrdersSpec)

/-- 'burnishlaw52.SchedDependences', WHERE WHAT IT READS IS OF BULK AT MOST 1048576: true; the input reads as it did. -/
def schedDependencesUptoRow : OpenClaim := { program := "ytjacphcbiaacnaadoor", sum := "d7ceb4b55a9391594bde7fa84cee928ab4d3d4902b2acc7d21ea160933017404", func := "burnish/burnishlaw52.SchedDependences", spec := "schedDependences", unfollowed := true, recurses := true, named := ["burnish/sched.none"], apart := false, laid := [("burnish/sched.none", laid_burnish_sched_none)], narrowed := true }
def SchedDependencesUptoSaid : Prop := schedDependencesUptoRow.holds Tryd.pinned (OpenSpec.upto schedDependencesSpec)

/-- 'burnishlaw52.SchedFuncs', WHERE WHAT IT READS IS OF BULK AT MOST 1048576: true; the input reads as it did. -/
def schedFuncsUptoRow : OpenClaim := { program := "ytjacphcbiaacnaadoor", sum := "d7ceb4b55a9391594bde7fa84cee928ab4d3d4902b2acc7d21ea160933017404", func := "burnish/burnishlaw52.SchedFuncs", spec := "schedFuncs", unfollowed := true, recurses := true, named := ["burnish/sched.none"], apart := false, laid := [("burnish/sched.none", laid_burnish_sched_none)], narrowed := true }
def SchedFuncsUptoSaid : Prop := schedFuncsUptoRow.holds Tryd.pinned (OpenSpec.upto schedFuncsSpec)

end Rows
end Go.Proofs.YtjacphcbiaacnaaDoor
