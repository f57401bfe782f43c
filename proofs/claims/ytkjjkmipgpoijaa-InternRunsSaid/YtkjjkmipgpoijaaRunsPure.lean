/- 'small' of the steps: what it answers. -/
import Derived.Test.YtkjjkmipgpoijaaPInternRunsx1
set_option linter.unusedVariables false
set_option linter.unusedSimpArgs false
namespace Go.Proofs.Ytkjjkmipgpoijaa.RunsPure
open Go.RowKit Go.Proofs.YtkjjkmipgpoijaaW.PrintWords Go.Proofs.Ytkjjkmipgpoijaa.PInternRuns

def sm (l : List S34) : Bool := decide (l.length ≤ 80) && l.all fun s => decide (s.f2.length ≤ 200)
theorem loop (l : List S34) (hn : l.length ≤ 80) : ∀ (d k i : Nat), i + d = l.length → d < k →
    burnishlaw04_small.l0 k l (l.length : Int) (i : Int) = some ((l.drop i).all fun s => decide (s.f2.length ≤ 200)) := by
  intro d
  induction d with
  | zero =>
    intro k i hi hk
    obtain ⟨k, rfl⟩ : ∃ m, k = m + 1 := ⟨k - 1, by omega⟩
    simp only [burnishlaw04_small.l0]
    rw [if_neg (by omega), List.drop_of_length_le (by omega)]
    rfl
  | succ d ih =>
    intro k i hi hk
    obtain ⟨k, rfl⟩ : ∃ m, k = m + 1 := ⟨k - 1, by omega⟩
    have hlt : i < l.length := by omega
    have hr : rd_T34 l (i : Int) = l[i] := by simp [rd_T34, hlt]
    simp only [burnishlaw04_small.l0]
    rw [if_pos (by omega), if_pos (by omega), if_pos (by omega), hr, List.drop_eq_getElem_cons hlt]
    by_cases h : (l[i].f2.length : Int) > 200
    · rw [if_pos h, List.all_cons, decide_eq_false (by omega)]
      rfl
    · rw [if_neg h]
      have e : wrap64 ((i : Int) + 1) = ((i + 1 : Nat) : Int) := by unfold wrap64; omega
      rw [e, ih k (i + 1) (by omega) (by omega), List.all_cons, decide_eq_true (by omega)]
      rfl
theorem small_f (l : List S34) : burnishlaw04_small.f (l.length + 1) l = some (sm l) := by
  unfold burnishlaw04_small.f sm
  by_cases h : (l.length : Int) > 80
  · rw [if_pos h, decide_eq_false (by omega)]
    rfl
  · rw [if_neg h, show (0 : Int) = ((0 : Nat) : Int) from rfl, loop l (by omega) l.length _ 0 (by omega) (by omega), decide_eq_true (by omega)]
    rfl
end Go.Proofs.Ytkjjkmipgpoijaa.RunsPure
