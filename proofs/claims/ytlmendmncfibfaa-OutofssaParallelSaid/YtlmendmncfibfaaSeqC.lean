/- Package slices at pairs: Clone. -/
import Derived.Test.YtlmendmncfibfaaSeqB
import Derived.Lib.SliceRun
set_option linter.unusedVariables false
set_option linter.unusedSimpArgs false
namespace Go.Proofs.Ytlmendmncfibfaa
open Go.RowKit Go.Proofs.YtlmendmncfibfaaW.PrintWords Go.Proofs.Ytlmendmncfibfaa.POutofssaSequentializes Mem

theorem own_empty50 (W : World) (ok : Nat → Prop) (h : ok W.heap.size) : Kd.R k50 50 (W.alloc (.cells #[] 50)) 0 ok (.slice (some ⟨W.heap.size, 0, none⟩) 0 0) [] := by
  refine ⟨fun k hk => ?_, [], World.ownsRow_made W #[] 0 (Nat.zero_le _) (Nat.zero_le _) rfl, Reps.none _ _⟩
  have : W.heap.size = k := by simpa [Value.ownBlock] using hk
  exact this ▸ h

set_option maxHeartbeats 1000000 in
theorem clone_any (A : Option Addr) (c : Nat) (xs : List S50) (w : World) (hC : Kd.C k50 w A xs.length xs) (hm : xs.length ≤ 1000000) :
    Calls Try.prog 21 #[.slice A xs.length c] w fun e w' => ∃ v, e = .returned v ∧ Kd.R k50 50 w' 0 (fun k => w.heap.size ≤ k) v xs ∧ Kp (fun _ => False) w w' := by
  cases A with
  | none =>
    have hx : xs = [] := by
      rcases Nat.eq_zero_or_pos xs.length with h | h
      · exact List.eq_nil_of_length_eq_zero h
      · obtain ⟨ad, h1, _⟩ := hC.2.2 h
        cases h1
    subst hx
    clear hC
    have hq : ∀ W : World, (binOp .eql 37 (.slice none 0 c) (.slice none 0 0)).run Try.prog W = .ok (.bool true) W := fun W => Go.Lib.run_eql_slice_nil W 37 50 none _ _ _ _ Try.underlying37
    go_enter Try.func21, Try.ntmps21
    go_wp2
    go_ret
    exact ⟨_, rfl, Kd.R_nil _ _ _ _ _, Kp.refl _ _⟩
  | some ad =>
    have hE : Aside0 (Kd.R k50 50 (w.alloc (.cells #[] 50)) 0 (fun k => w.heap.size ≤ k) (.slice (some ⟨w.heap.size, 0, none⟩) 0 0) []) := ⟨own_empty50 w _ (Nat.le_refl _)⟩
    have hC' : Aside0 (Kd.C k50 (w.alloc (.cells #[] 50)) (some ad) xs.length xs) := ⟨Kd.C_alloc hC _⟩
    have hm' := Aside0.mk hm
    clear hC hm
    have hq : ∀ W : World, (binOp .eql 37 (.slice (some ad) xs.length c) (.slice none 0 0)).run Try.prog W = .ok (.bool false) W := fun W => Go.Lib.run_eql_slice_nil W 37 50 (some ad) _ _ _ _ Try.underlying37
    go_enter Try.func21, Try.ntmps21
    go_wp2_with (at_builtin; refine Kd.R_append_rows k50 (Rr := k50.K (w.alloc (.cells #[] 50))) 0 (by rfl) (.tmp 5) (.tmp 6) 37 50 (.agg #[.int .i64 0, .int .i64 0]) 16 (by rfl) Try.underlying37 info50 rfl (by decide) (by decide) (.slice (some ⟨w.heap.size, 0, none⟩) 0 0) [] xs (some ad) xs.length c (fun k => w.heap.size ≤ k) (fun _ => False) (by rfl) (by rfl) hE.out hC'.out (fun x cs h => by rw [k50_open h]; exact k50_mkM _ _ _ x) (fun _ h => h.elim) (fun k hk => by simp at hk; omega) (Below.refl _ _) (Nat.zero_le _) (by have := hm'.out; simp; omega) ?_; intro v1 wa hRA hBA hgA hatA; simp only [List.nil_append] at hRA; have ka : Kp (fun _ => False) w wa := ((Kp.refl _ w).alloc _).grown hgA (fun k hk => .inr (by simp [Value.ownBlock] at hk; omega)); have hF := Aside0.mk (And.intro hRA ka); clear hRA hBA hgA hatA ka)
    go_ret
    exact ⟨_, rfl, hF.out.1, hF.out.2⟩
end Go.Proofs.Ytlmendmncfibfaa
