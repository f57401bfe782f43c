/- The methods over several sets at once. -/
import Derived.Test.YtibjpamnkhnagaaDoorSetL
set_option linter.unusedVariables false
set_option linter.unusedSimpArgs false
namespace Go.Proofs.YtibjpamnkhnagaaDoor
open Go.RowKit Go.Proofs.YtibjpamnkhnagaaDoorW.PrintWords Mem Bit
section
variable {w0 W : World} {L : List St} {x y : St}
theorem Ss.of_ (h : Ss w0 W L) (n : Nat) (A : Option Addr) (c : Nat) (l : List Int) (hC : Kd.C (Kd.int .i64) W A l.length l) (hm : l.length ≤ 17592186044416) (hn : n ≤ 65536) :
    Calls Tryd.prog 8 #[.int .i64 n, .slice A l.length c] W fun e w' => ∃ p a b, e = .returned (.pointer (some ⟨p, 0, none⟩)) ∧ Ss w0 w' (L ++ [⟨a, b, p, setL n l⟩]) ∧ Below W.heap.size W w' := by
  refine (of_any n A c l W hC hm).mono ?_
  rintro e w' ⟨v, rfl, hP, hK⟩
  rw [ofO_some n l hn] at hP
  obtain ⟨p, rfl, hB⟩ := hP.some_
  exact ⟨p, _, _, rfl, h.push hK.none_below hB, hK.none_below⟩
theorem Ss.clone (h : Ss w0 W L) (i : Nat) (hx : L[i]? = some x) :
    Calls Tryd.prog 9 #[.pointer (some ⟨x.p, 0, none⟩)] W fun e w' => ∃ p a b, e = .returned (.pointer (some ⟨p, 0, none⟩)) ∧ Ss w0 w' (L ++ [⟨a, b, p, x.bs⟩]) ∧ Below W.heap.size W w' := by
  refine (clone_any _ _ _ W (h.ps i hx)).mono ?_
  rintro e w' ⟨v, rfl, hP, hK⟩
  obtain ⟨p, rfl, hB⟩ := hP.some_
  exact ⟨p, _, _, rfl, h.push hK.none_below hB, hK.none_below⟩
theorem Ss.op_ {op : BinOp} {f : FuncId} (h : Ss w0 W L) (i j : Nat) (hx : L[i]? = some x) (hy : L[j]? = some y) (hij : i ≠ j) (hl : x.bs.length = y.bs.length)
    (hc : ∀ ok ok2, PS W ok (some ⟨x.p, 0, none⟩) (some x.bs) → PS W ok2 (some ⟨y.p, 0, none⟩) (some y.bs) → (∀ k, ok2 k → ¬ ok k) →
      Calls Tryd.prog f #[.pointer (some ⟨x.p, 0, none⟩), .pointer (some ⟨y.p, 0, none⟩)] W fun e w' => e = .returned (.bool (opC op (some x.bs) (some y.bs))) ∧ PS w' ok (some ⟨x.p, 0, none⟩) (opO op (some x.bs) (some y.bs)) ∧ Kp ok W w') :
    Calls Tryd.prog f #[.pointer (some ⟨x.p, 0, none⟩), .pointer (some ⟨y.p, 0, none⟩)] W fun e w' => e = .returned (.bool (decide (zipB op x.bs y.bs ≠ x.bs))) ∧ Ss w0 w' (L.set i { x with bs := zipB op x.bs y.bs }) := by
  refine (hc _ _ (h.ps i hx) (h.ps j hy) (h.dis i j hx hy hij)).mono ?_
  rintro e w' ⟨rfl, hP, hK⟩
  have e1 : opC op (some x.bs) (some y.bs) = decide (zipB op x.bs y.bs ≠ x.bs) := by simp only [opC, if_pos hl]
  have e2 : opO op (some x.bs) (some y.bs) = some (zipB op x.bs y.bs) := by simp only [opO, if_pos hl]
  rw [e2] at hP
  exact ⟨by rw [e1], h.write i hx hK hP.un⟩
theorem Ss.union (h : Ss w0 W L) (i j : Nat) (hx : L[i]? = some x) (hy : L[j]? = some y) (hij : i ≠ j) (hl : x.bs.length = y.bs.length) :
    Calls Tryd.prog 21 #[.pointer (some ⟨x.p, 0, none⟩), .pointer (some ⟨y.p, 0, none⟩)] W fun e w' => e = .returned (.bool (decide (zipB .or x.bs y.bs ≠ x.bs))) ∧ Ss w0 w' (L.set i { x with bs := zipB .or x.bs y.bs }) :=
  h.op_ i j hx hy hij hl (fun ok ok2 h1 h2 hd => Union_any _ _ ok ok2 _ _ W h1 h2 (.inl hd))
theorem Ss.subtract (h : Ss w0 W L) (i j : Nat) (hx : L[i]? = some x) (hy : L[j]? = some y) (hij : i ≠ j) (hl : x.bs.length = y.bs.length) :
    Calls Tryd.prog 23 #[.pointer (some ⟨x.p, 0, none⟩), .pointer (some ⟨y.p, 0, none⟩)] W fun e w' => e = .returned (.bool (decide (zipB .andNot x.bs y.bs ≠ x.bs))) ∧ Ss w0 w' (L.set i { x with bs := zipB .andNot x.bs y.bs }) :=
  h.op_ i j hx hy hij hl (fun ok ok2 h1 h2 hd => Subtract_any _ _ ok ok2 _ _ W h1 h2 (.inl hd))
theorem Ss.intersect (h : Ss w0 W L) (i j : Nat) (hx : L[i]? = some x) (hy : L[j]? = some y) (hij : i ≠ j) (hl : x.bs.length = y.bs.length) :
    Calls Tryd.prog 25 #[.pointer (some ⟨x.p, 0, none⟩), .pointer (some ⟨y.p, 0, none⟩)] W fun e w' => e = .returned (.bool (decide (zipB .and x.bs y.bs ≠ x.bs))) ∧ Ss w0 w' (L.set i { x with bs := zipB .and x.bs y.bs }) :=
  h.op_ i j hx hy hij hl (fun ok ok2 h1 h2 hd => Intersect_any _ _ ok ok2 _ _ W h1 h2 (.inl hd))
theorem Ss.count (h : Ss w0 W L) (i : Nat) (hx : L[i]? = some x) (n : Nat) (hn : cnt x.bs = n) :
    Calls Tryd.prog 30 #[.pointer (some ⟨x.p, 0, none⟩)] W fun e w' => e = .returned (.int .i64 n) ∧ Ss w0 w' L := by
  refine (count_any _ _ W (h.psW i hx) (h.len i hx) h.dbW).mono ?_
  rintro e w' ⟨rfl, hB⟩
  rw [elemsO_cnt, hn]
  exact ⟨rfl, h.step hB⟩
theorem Ss.has (h : Ss w0 W L) (i : Nat) (hx : L[i]? = some x) (k : Nat) (hk : k < x.bs.length) (b : Bool) (hb : x.bs.getD k false = b) :
    Calls Tryd.prog 11 #[.pointer (some ⟨x.p, 0, none⟩), .int .i64 k] W fun e w' => e = .returned (.bool b) ∧ W = w' := has_in x.p _ x.bs k b W (h.bs i hx) hk hb
theorem Ss.equal (h : Ss w0 W L) (i j : Nat) (hx : L[i]? = some x) (hy : L[j]? = some y) (b : Bool) (hb : decide (x.bs = y.bs) = b) :
    Calls Tryd.prog 10 #[.pointer (some ⟨x.p, 0, none⟩), .pointer (some ⟨y.p, 0, none⟩)] W fun e w' => e = .returned (.bool b) ∧ Ss w0 w' L := by
  refine (equal_any _ _ _ _ _ _ W (h.ps i hx) (h.ps j hy)).mono ?_
  rintro e w' ⟨rfl, q, rfl⟩
  have e1 : decide (some x.bs = some y.bs) = b := by rw [← hb, Bool.eq_iff_iff]; simp
  rw [e1]
  exact ⟨rfl, h.drewN q⟩
end
end Go.Proofs.YtibjpamnkhnagaaDoor
