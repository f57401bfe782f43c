/-
SchedFuncs: for every machine model and every function the law returns true: the scheduled function is the reference's; what it was handed reads as before. Conditions: the variable burnish/sched.none lies as its initialiser lays it (the card ties it to the program's text); none besides, beside the form's own reach.
-/
import Derived.Test.YtjacphcbiaacnaaDoorMSFu19
import Derived.Test.YtjacphcbiaacnaaDoorRows
import Derived.Test.YtjacphcbiaacnaaDoorCards
import Derived.Test.YtjacphcbiaacnaaDoorTie
import Derived.WalkKit
import Derived.ProofKit
import Derived.OpenShut
import Derived.ShutString
import Derived.ChangeOld
import Derived.Below
import Derived.SizedLaws
import Derived.SevenTiedAt
import Derived.LaidMore
import Derived.Stop.Joined
import Derived.Lib.LaidTab
namespace Go.Proofs.YtjacphcbiaacnaaDoor.schedFuncs
open Go.ChangeShapes Go.WideShapes Go.ChangeAt Go.RowKit
open Go.ChangeMaps (open_string shut_string)
set_option linter.unusedVariables false
theorem own : ownKnob Tryd.prog.godebug = none := by kernel_rfl
theorem laidOut : laidOutB Tryd.prog = true := by kernel_rfl
theorem door_met (os : Os) (args : Array Value) : laidMetH Tryd.prog Rows.schedFuncsRow.laid ((World.doorLaid Tryd.prog 14 os).forCall (fun _ _ => 0) ⟨#[], args, []⟩).memory :=
  laidMetH_of_parts3 (fuel := 8) (laidMet_of_run' 8 (by kernel_rfl) (by kernel_rfl)) (by kernel_rfl) (by kernel_rfl)
theorem gTab : Tryd.prog.globalNamed "burnish/sched.none" = some 0 := by kernel_rfl
theorem tTab : (Tryd.prog.globals[0]?).map (·.type) = some 79 := by kernel_rfl
/-- What the condition gives: the variable's two cells. -/
theorem of_laid {W : World} (h : laidMetH Tryd.prog Rows.schedFuncsRow.laid W) : DN W := by
  rw [MakeChecks.laidMetH_plain _ _ _ (by kernel_rfl)] at h
  obtain ⟨ps, ⟨g', t', cs, fuel, p, q, hg', ht', hvar, hd, _, _⟩, _⟩ := h
  obtain rfl := Option.some.inj (gTab.symm.trans hg')
  obtain rfl := Option.some.inj (tTab.symm.trans ht')
  obtain ⟨y0, y1, n, hx, hl, h0, h1⟩ := trod_struct2 Tryd.underlying79 hd
  obtain ⟨z0, e0, rfl, _⟩ := DataW.trod_int Tryd.underlying3 h0
  obtain ⟨z1, e1, rfl, _⟩ := DataW.trod_int Tryd.underlying3 h1
  have hx1 := congrArg Prod.fst hx
  simp only [Rows.laid_burnish_sched_none, DataW.agg.injEq, List.cons.injEq, DataW.lit.injEq, Lit.int.injEq] at hx1
  obtain ⟨⟨_, hz0⟩, ⟨_, hz1⟩, _⟩ := hx1
  subst hz0 hz1
  have c0 : cs[0]? = some (.int .i64 (-1)) := by
    have := congrArg (·[0]?) e0
    exact (show _ ∧ _ by simpa [List.getElem?_take, List.getElem?_drop] using this).2
  have c1 : cs[1]? = some (.int .i64 (-1)) := by
    have := congrArg (·[0]?) e1
    exact (show _ ∧ _ by simpa [List.getElem?_take, List.getElem?_drop] using this).2
  exact ⟨(World.var?_cell gTab hvar 0).trans c0, (World.var?_cell gTab hvar 1).trans c1⟩
set_option maxRecDepth 100000 in
theorem lifted (os : Os) (started : os.Started) (H : Type) (enc : TypeId × Value → H) :
    ReturnsInHanded {} Tryd.checked os 6 .any (fun w args => (Rows.schedFuncsSpec.pre enc Tryd.prog Tryd.f6 Rows.schedFuncsRow.domain false w args ∧ laidMetH Tryd.prog Rows.schedFuncsRow.laid w) ∧ sizedMet enc Tryd.prog Tryd.f6 (OpenSpec.ofChange Rows.schedFuncsSpec) false w args)
      (Rows.schedFuncsSpec.post enc Tryd.prog Tryd.f6 false true false false) := by
  refine returnsInHanded_of_change_and (C := Tryd.checked) (X := fun w _ => laidMetH Tryd.prog Rows.schedFuncsRow.laid w) (fun _ _ _ hh h => h.of_heap hh) own started (by kernel_rfl) Tryd.func6
    (ChangeSpec.witness_shaped (enc := enc) (C := Tryd.checked) (os := os) (X := fun w _ => laidMetH Tryd.prog Rows.schedFuncsRow.laid w) false (World.doorLaid Tryd.prog 14 os) #[.agg #[.int .i64 0, .int .i64 0, .slice none 0 0], .agg #[.string ByteArray.empty, .slice none 0 0, .int .i64 0, .slice none 0 0, .int .i64 0, .int .i64 0, .slice none 0 0]] 8 rfl (World.shaped_of_RefB (by kernel_rfl) (by kernel_rfl)) (by kernel_rfl) (by kernel_rfl) (by kernel_rfl) (door_met os _)) ?_
  intro W base args ds gs before hval0 hW hcnd hsz0 hL _
  have hsz : (DataW.weightsEach Tryd.prog (Tryd.f6.params.toList ++ Rows.schedFuncsSpec.plain.varTypes Tryd.prog) (ds ++ gs)).all (· ≤ reachBytes) = true := hsz0
  have hval : ∀ (j : Nat) t v, Tryd.f6.params[j]? = some t → args[j]? = some v → Value.okWide Tryd.prog W .any base t v := hval0
  have hW' := hW
  obtain ⟨p, q, hA0, hV, rfl, hfz, hnd⟩ := hW
  have hA : DataW.TrodAll enc Tryd.prog W 0 (fun _ => true) true Tryd.f6.params.toList args.toList ds p := hA0
  rw [Tryd.params6] at hA hval hsz
  obtain ⟨v0, vs0, d0, ds0, p0, q0, hargs, rfl, rfl, h0, r0⟩ := trodAll_cons hA
  obtain ⟨v1, vs1, d1, ds1, p1, q1, rfl, rfl, rfl, h1, r1⟩ := trodAll_cons r0
  obtain ⟨rfl, rfl, rfl⟩ := trodAll_nil r1
  obtain rfl : args = #[v0, v1] := by cases args; simp_all
  obtain ⟨rfl, rfl⟩ := trodVars_none hV
  have k0 := h0
  have lt0 : ∀ x ∈ p0, x.block < W.heap.size := by obtain ⟨m, hm⟩ := k0; exact DataW.trod_lt m _ _ _ hm
  obtain ⟨x0, cs0, rfl, C0, g0⟩ := Opens.Op.arg_agg (op24) ((okWide_struct Tryd.underlying24 (hval 0 24 v0 rfl rfl)).imp fun _ h => h.1) h0 (Opens.weight_of hsz (j := 0) (t := 24) rfl rfl)
  have k1 := h1
  have lt1 : ∀ x ∈ p1, x.block < W.heap.size := by obtain ⟨m, hm⟩ := k1; exact DataW.trod_lt m _ _ _ hm
  obtain ⟨x1, cs1, rfl, C1, g1⟩ := Opens.Op.arg_agg (op55) ((okWide_struct Tryd.underlying55 (hval 1 55 v1 rfl rfl)).imp fun _ h => h.1) h1 (Opens.weight_of hsz (j := 1) (t := 55) rfl rfl)
  clear hA0 hval0 hsz0 hsz
  refine (sf_walk cs0 x0 cs1 x1 W C0 g0 C1 g1 (of_laid hL)).mono fun e W' ⟨he, bel⟩ => ?_
  subst he
  exact ⟨_, rfl, _, _, _, [], _, [], hW', trodAll_mk1 (shut_bool Tryd.underlying4 _), (trodAll_cons_mk (Below.trod laidOut (by kernel_rfl) (of_decide_eq_true (by kernel_rfl)) k0 bel lt0) (trodAll_cons_mk (Below.trod laidOut (by kernel_rfl) (of_decide_eq_true (by kernel_rfl)) k1 bel lt1) trodAll_mk0)), rfl, bel.frame _, fun h => by cases h⟩
theorem over : Rows.schedFuncsRow.holds Tryd.pinned (OpenSpec.ofChange Rows.schedFuncsSpec) :=
  OpenClaim.holds_of_wide 6 Tryd.f6 rfl rfl rfl rfl rfl rfl rfl ⟨rfl, rfl, rfl, rfl, rfl⟩ rfl rfl rfl rfl rfl (by kernel_rfl) Tryd.func6 (by kernel_rfl)
    (of_decide_eq_true (by kernel_rfl)) (by unfold Func.isWrapper; first | (rw [if_pos (by decide +kernel)]; kernel_rfl) | (rw [if_neg (by decide +kernel)]; exact ⟨rfl, rfl⟩))
    (fun os started H enc _ => lifted os started H enc)
theorem card_holds : Rows.SchedFuncsCardSaid :=
  Claim7.holds_tied_plain_at .later [] [.data] true (true, "90dd4197b53a7f7da91902326b0c09272a486dc82a1189ca0bdd8f6f445cb0b5") false
    over (fun _ h => by cases h) (by kernel_rfl) (fun _ h => by cases h) schedFuncs_row_tie rfl ⟨rfl, rfl⟩ (by kernel_rfl) rfl
    (fun f fn hf hfn => by
      obtain rfl : f = 6 := Option.some.inj ((show Tryd.prog.funcNamed "burnish/burnishlaw52.SchedFuncs" = some 6 by kernel_rfl).symm.trans hf) |>.symm
      obtain rfl : fn = Tryd.f6 := (Option.some.inj (Tryd.func6.symm.trans hfn)).symm
      exact ⟨by kernel_rfl, fun j t ht => by
        rw [Tryd.params6] at ht
        have hm : t ∈ [24, 55] := by simpa using Array.mem_of_getElem? ht
        have hall : ([24, 55].all fun u => !Tryd.prog.wantsStandIn u) = true := by kernel_rfl
        exact (show Tryd.prog.wantsStandIn t = false by simpa using List.all_eq_true.1 hall t hm)⟩)
    (by kernel_rfl)
end Go.Proofs.YtjacphcbiaacnaaDoor.schedFuncs
namespace Go.Proofs.YtjacphcbiaacnaaDoor
/-- The row, under a short name, for the claim. -/
theorem schedFuncs_holds : Rows.SchedFuncsCardSaid := schedFuncs.card_holds
#print axioms schedFuncs_holds
end Go.Proofs.YtjacphcbiaacnaaDoor
