/- The order of parallel copies, in plain lists. -/
import Derived.Test.YtlmendmncfibfaaSeqE
set_option linter.unusedVariables false
set_option linter.unusedSimpArgs false
namespace Go.Proofs.Ytlmendmncfibfaa
open Go.RowKit Go.Proofs.YtlmendmncfibfaaW.PrintWords Go.Proofs.Ytlmendmncfibfaa.POutofssaSequentializes

def isFree (l : List S50) (p : S50) : Bool := !(l.any fun q => q.f1 == p.f0)
def fr (l : List S50) : Option Nat := l.findIdx? (isFree l)
def rep (t a : Int) (q : S50) : S50 := if q.f1 = a then ⟨q.f0, t⟩ else q
def fin (t : Int) : Nat → List S50 → List S50 → List S50
  | 0, _, out => out
  | n + 1, l, out => match l with
    | [] => out
    | p :: l' => match fr (p :: l') with
      | some i => fin t n ((p :: l').eraseIdx i) (out ++ [(p :: l').getD i z50])
      | none => fin t n ((p :: l').map (rep t p.f0)) (out ++ [⟨t, p.f0⟩])
def mu (l : List S50) : Nat := 2 * l.length + if (fr l).isSome then 0 else 1
theorem fin_nil (t : Int) (n : Nat) (out : List S50) : fin t n [] out = out := by cases n <;> rfl
theorem fin_some (t : Int) (n : Nat) (l out : List S50) (i : Nat) (h : fr l = some i) (hi : i < l.length) : fin t (n + 1) l out = fin t n (l.eraseIdx i) (out ++ [l[i]]) := by
  cases l with
  | nil => simp at hi
  | cons p l' =>
    show (match fr (p :: l') with | some i => fin t n ((p :: l').eraseIdx i) (out ++ [(p :: l').getD i z50]) | none => fin t n ((p :: l').map (rep t p.f0)) (out ++ [(⟨t, p.f0⟩ : S50)])) = _
    rw [h]
    simp only [List.getD_eq_getElem?_getD, List.getElem?_eq_getElem hi, Option.getD_some]
theorem fin_none (t : Int) (n : Nat) (l out : List S50) (h : fr l = none) (hl : 0 < l.length) : fin t (n + 1) l out = fin t n (l.map (rep t l[0].f0)) (out ++ [⟨t, l[0].f0⟩]) := by
  cases l with
  | nil => simp at hl
  | cons p l' =>
    show (match fr (p :: l') with | some i => fin t n ((p :: l').eraseIdx i) (out ++ [(p :: l').getD i z50]) | none => fin t n ((p :: l').map (rep t p.f0)) (out ++ [(⟨t, p.f0⟩ : S50)])) = _
    rw [h]
    rfl
theorem mu_pos (l : List S50) (h : 0 < l.length) : 1 ≤ mu l := by unfold mu; omega
theorem mu_some (l : List S50) (i : Nat) (h : fr l = some i) (hi : i < l.length) : mu (l.eraseIdx i) + 1 ≤ mu l := by
  unfold mu
  rw [h, List.length_eraseIdx, if_pos hi]
  simp only [Option.isSome_some, if_true]
  split <;> omega
theorem mu_none (t : Int) (l : List S50) (h : fr l = none) (hl : 0 < l.length) (ht : ∀ q ∈ l, q.f0 ≠ t) : mu (l.map (rep t l[0].f0)) + 1 ≤ mu l := by
  have h1 : (fr (l.map (rep t l[0].f0))).isSome = true := by
    cases e : fr (l.map (rep t l[0].f0)) with
    | some i => rfl
    | none =>
      have h2 := List.findIdx?_eq_none_iff.1 e (rep t l[0].f0 l[0]) (List.mem_map_of_mem (List.getElem_mem hl))
      unfold isFree at h2
      have h3 : ((l.map (rep t l[0].f0)).any fun q => q.f1 == (rep t l[0].f0 l[0]).f0) = true := by simpa using h2
      obtain ⟨q, hq, hq2⟩ := List.any_eq_true.1 h3
      obtain ⟨q0, hq0, rfl⟩ := List.mem_map.1 hq
      have h4 : (rep t l[0].f0 l[0]).f0 = l[0].f0 := by unfold rep; split <;> rfl
      rw [h4] at hq2
      have h5 : (rep t l[0].f0 q0).f1 = l[0].f0 := by simpa using hq2
      unfold rep at h5
      split at h5
      · exact absurd h5.symm (ht _ (List.getElem_mem hl))
      · rename_i h6; exact absurd h5 h6
  unfold mu
  rw [h, h1, List.length_map]
  simp
theorem fr_hit (l : List S50) (i : Nat) (hi : i < l.length) (h0 : ∀ j (h : j < l.length), j < i → isFree l l[j] = false) (h : isFree l l[i] = true) : fr l = some i :=
  List.findIdx?_eq_some_iff_getElem.2 ⟨hi, h, fun j hj => by rw [h0 j (by omega) hj]; simp⟩
theorem fr_miss (l : List S50) (h0 : ∀ j (h : j < l.length), isFree l l[j] = false) : fr l = none :=
  List.findIdx?_eq_none_iff.2 fun x hx => by
    obtain ⟨i, hi, rfl⟩ := List.mem_iff_getElem.1 hx
    exact h0 i hi
theorem rep_f0 (t a : Int) (q : S50) : (rep t a q).f0 = q.f0 := by unfold rep; split <;> rfl
theorem fin_len (t : Int) (n : Nat) : ∀ l out, (fin t n l out).length ≤ out.length + n := by
  induction n with
  | zero => intro l out; exact Nat.le_refl _
  | succ n ih =>
    intro l out
    cases l with
    | nil => rw [fin_nil]; omega
    | cons p l' =>
      cases h : fr (p :: l') with
      | some i =>
        obtain ⟨hi, _⟩ := List.findIdx?_eq_some_iff_getElem.1 h
        rw [fin_some t n _ _ i h hi]
        have := ih ((p :: l').eraseIdx i) (out ++ [(p :: l')[i]])
        simp only [List.length_append, List.length_cons, List.length_nil] at this ⊢
        omega
      | none =>
        rw [fin_none t n _ _ h (by simp)]
        have := ih ((p :: l').map (rep t (p :: l')[0].f0)) (out ++ [⟨t, (p :: l')[0].f0⟩])
        simp only [List.length_append, List.length_cons, List.length_nil] at this ⊢
        omega
end Go.Proofs.Ytlmendmncfibfaa
