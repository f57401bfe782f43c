/- The functions that append: contracts. -/
import Derived.Test.YtjcekelmbpenkaaVarPure
import Derived.Test.YtjcekelmbpenkaaMem
import Derived.Test.YtjcekelmbpenkaaRows
import Derived.WalkKit
import Derived.WalkSpells
import Derived.WalkLawsBesides
import Derived.Deep.QuietTactic
import Derived.BigQuiet
import Derived.Deep.RegionHeld3
import Derived.Deep.RegionLaw
set_option linter.unusedVariables false
set_option linter.unusedSimpArgs false
namespace Go.Proofs.Ytjcekelmbpenkaa
open Go.RowKit Go.Proofs.YtjcekelmbpenkaaW.PrintWords Mem VarPure

theorem info5 : (Try.prog.info? 5).map (fun i => (i.zero, i.size, i.bytes)) = some (some (.int .u8 0), 1, 1) := by kernel_rfl
abbrev Byt := Kd.int .u8

theorem own_empty (W : World) (c : Nat) (cur : Array Value) (ok : Nat → Prop) (h : ok W.heap.size) (hm : c ≤ maxLen) (hs : cur.size = c) : Kd.R Byt 5 (W.alloc (.cells cur 5)) 0 ok (.slice (some ⟨W.heap.size, 0, none⟩) 0 c) [] := by
  refine ⟨fun k hk => ?_, [], World.ownsRow_made W cur c (Nat.zero_le _) hm (by show _ = c * 1; omega), Reps.none _ _⟩
  have : W.heap.size = k := by simpa [Value.ownBlock] using hk
  exact this ▸ h
theorem R_of_row {w : World} {v : Value} {ok : Nat → Prop} (h : w.ownsRow 0 5 1 v 0 []) (hk : ∀ k, v.ownBlock = some k → ok k) : Kd.R Byt 5 w 0 ok v [] := ⟨hk, [], h, Reps.none _ _⟩

/-- clone: a new row of the same bytes. -/
theorem clone_any (m n c : Nat) (A : Option Addr) (l : List Int) (w : World) (hk : Kd.C Byt w A n l) (hn : n + m ≤ 140737488355328) :
    Calls Try.prog 32 #[.slice A n c, .int .i64 m] w fun e w' => ∃ v, e = .returned v ∧ Kd.R Byt 5 w' 0 (fun k => w.heap.size ≤ k) v l ∧ Kp (fun _ => False) w w' := by
  obtain ⟨i0, hi, hz0, hz1, hz2⟩ := info_parts info5
  have hk' := Aside0.mk hk
  clear hk
  go_enter Try.func32, Try.ntmps32
  go_wp2_with (first
    | (at_make; refine wpList_make_own _ rfl _ _ 22 rfl 0 5 i0 (.int .u8 0) 1 Try.underlying22 hi hz0 hz1 _ _ _ (n + m) rfl rfl (by omega) (by rw [hz2]; omega) (by unfold maxLen; omega) (Nat.zero_le _) ?_; intro w1 ho hg; have hR1 : Aside0 (Kd.R Byt 5 w1 0 (fun k => w.heap.size ≤ k) (.slice (some ⟨w.heap.size, 0, none⟩) 0 (n + m)) []) := ⟨R_of_row ho (fun k hk => by have : w.heap.size = k := (by simpa [Value.ownBlock] using hk); omega)⟩; have hK1 : Aside0 (Kp (fun _ => False) w w1) := ⟨(Kp.refl _ w).grown hg (fun k hk => by cases hk)⟩; clear ho hg)
    | (at_builtin; refine Kd.R_append_rows Byt (Rr := fun x cs => cs = [.int .u8 x]) 0 (by rfl) (.tmp 9) (.tmp 10) 22 5 (.int .u8 0) 1 (by rfl) Try.underlying22 info5 rfl (by decide) (by decide) (.slice (some ⟨w.heap.size, 0, none⟩) 0 (n + m)) [] l A n c (fun k => w.heap.size ≤ k) (fun _ => False) (by rfl) (by rfl) hR1.out (Kd.C_below hk'.out hK1.out.none_below) (fun _ _ h => h) (fun _ h => h.elim) (fun k hk => by have := hK1.out.size; omega) (Below.refl _ _) (Nat.zero_le _) (by simp; omega) ?_; intro v1 w2 hRA hBA hgA hatA; simp only [List.nil_append] at hRA; obtain ⟨A1, cA, rfl, hle, _⟩ := Kd.R_reads hRA))
  go_ret
  exact ⟨_, rfl, hRA, hK1.out.grown hgA (fun k hk => .inr (by simp [Value.ownBlock] at hk; omega))⟩
end Go.Proofs.Ytjcekelmbpenkaa
