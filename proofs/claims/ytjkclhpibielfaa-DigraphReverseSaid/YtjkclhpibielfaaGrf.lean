/- Depth-first search in plain lists: the recursive visit, the machine with a stack, and what they find. -/
import Derived.WalkKit
set_option linter.unusedVariables false
set_option linter.unusedSimpArgs false
namespace Go.Proofs.Ytjkclhpibielfaa.Grf

/-- b can be reached from a. -/
inductive Reach (adj : Int → List Int) : Int → Int → Prop
  | refl (a : Int) : Reach adj a a
  | tail {a b c : Int} (h : Reach adj a b) (e : c ∈ adj b) : Reach adj a c
theorem Reach.trans {adj : Int → List Int} {a b c : Int} (h : Reach adj a b) (h2 : Reach adj b c) : Reach adj a c := by
  induction h2 with
  | refl => exact h
  | tail _ e ih => exact .tail ih e
theorem Reach.one {adj : Int → List Int} {a b : Int} (e : b ∈ adj a) : Reach adj a b := .tail (.refl a) e
theorem Reach.head {adj : Int → List Int} {a b c : Int} (e : b ∈ adj a) (h : Reach adj b c) : Reach adj a c := (Reach.one e).trans h
theorem Reach.mem {adj : Int → List Int} {V : List Int} (hV : ∀ a ∈ V, ∀ b ∈ adj a, b ∈ V) {a b : Int} (h : Reach adj a b) (ha : a ∈ V) : b ∈ V := by
  induction h with
  | refl => exact ha
  | tail _ e ih => exact hV _ ih _ e
theorem Reach.closed {adj : Int → List Int} {M : Int → Bool} {a b : Int} (h : Reach adj a b) (ha : M a = true) (hM : ∀ x, M x = true → ∀ y ∈ adj x, M y = true) : M b = true := by
  induction h with
  | refl => exact ha
  | tail _ e ih => exact hM _ ih _ e

abbrev Met := Int → Bool
def mark (m : Met) (n : Int) : Met := fun x => if x = n then true else m x
theorem mark_iff (m : Met) (n x : Int) : mark m n x = true ↔ x = n ∨ m x = true := by unfold mark; split <;> simp_all
def cnt (V : List Int) (m : Met) : Nat := (V.filter fun x => !m x).length
theorem filter_le {α : Type} (p q : α → Bool) : ∀ (l : List α), (∀ x ∈ l, p x = true → q x = true) → (l.filter p).length ≤ (l.filter q).length
  | [], _ => Nat.le_refl _
  | a :: l, h => by
    have ih := filter_le p q l (fun x hx => h x (List.mem_cons_of_mem _ hx))
    by_cases hp : p a = true
    · simp [hp, h a List.mem_cons_self hp]; exact ih
    · by_cases hq : q a = true
      · simp [hp, hq]; omega
      · simp [hp, hq]; exact ih
theorem filter_lt {α : Type} (p q : α → Bool) : ∀ (l : List α), (∀ x ∈ l, p x = true → q x = true) → (∃ x ∈ l, p x = false ∧ q x = true) → (l.filter p).length < (l.filter q).length
  | [], _, h => by obtain ⟨x, hx, _⟩ := h; cases hx
  | a :: l, h, he => by
    have ih := filter_le p q l (fun x hx => h x (List.mem_cons_of_mem _ hx))
    obtain ⟨x, hx, h1, h2⟩ := he
    rcases List.mem_cons.1 hx with rfl | hx
    · simp [h1, h2]; omega
    · have ih2 := filter_lt p q l (fun x hx => h x (List.mem_cons_of_mem _ hx)) ⟨x, hx, h1, h2⟩
      by_cases hp : p a = true
      · simp [hp, h a List.mem_cons_self hp]; exact ih2
      · by_cases hq : q a = true
        · simp [hp, hq]; omega
        · simp [hp, hq]; exact ih2
theorem cnt_mark {V : List Int} {m : Met} {n : Int} (hn : n ∈ V) (hm : m n = false) : cnt V (mark m n) < cnt V m := by
  refine filter_lt _ _ V (fun x _ h => ?_) ⟨n, hn, ?_, ?_⟩
  · have h1 : mark m n x = false := by simpa using h
    cases h2 : m x with
    | false => rfl
    | true => rw [(mark_iff m n x).2 (.inr h2)] at h1; cases h1
  · have := (mark_iff m n n).2 (.inl rfl)
    simp [this]
  · simp [hm]
theorem cnt_mono {V : List Int} {m m' : Met} (h : ∀ x, m x = true → m' x = true) : cnt V m' ≤ cnt V m := by
  refine filter_le _ _ V fun x _ hx => ?_
  cases h2 : m x with
  | false => rfl
  | true => have h1 := h x h2; simp [h1] at hx

mutual
/-- The search from n: the met nodes and the finished ones, in their order. -/
def visit (adj : Int → List Int) : Nat → Int → Met → List Int → Met × List Int
  | 0, _, met, done => (met, done)
  | k + 1, n, met, done => ((visits adj k (adj n) (mark met n) done).1, (visits adj k (adj n) (mark met n) done).2 ++ [n])
def visits (adj : Int → List Int) : Nat → List Int → Met → List Int → Met × List Int
  | _, [], met, done => (met, done)
  | k, m :: l, met, done => if met m = true then visits adj k l met done else visits adj k l (visit adj k m met done).1 (visit adj k m met done).2
end

/-- What a search over the roots L that began at (met, done) has found. -/
structure Found (adj : Int → List Int) (V : List Int) (R : Int → Prop) (L : List Int) (met : Met) (done : List Int) (met' : Met) (done' nw : List Int) : Prop where
  eq : done' = done ++ nw
  met_ : ∀ x, met' x = true ↔ met x = true ∨ x ∈ nw
  nd : nw.Nodup
  fresh : ∀ x ∈ nw, met x = false
  inV : ∀ x ∈ nw, x ∈ V
  reach : ∀ x ∈ nw, R x
  closed : ∀ x ∈ nw, ∀ y ∈ adj x, met' y = true
  roots : ∀ y ∈ L, met' y = true
  order : (∀ g, met g = true → g ∉ done → ∀ x, R x → Reach adj g x) → ∀ a x b, nw = a ++ x :: b → ∀ y ∈ adj x, y ∈ done ++ a ∨ Reach adj y x
  parent : ∀ a x b, nw = a ++ x :: b → x ∈ L ∨ ∃ m ∈ b, x ∈ adj m
theorem Found.nil {adj : Int → List Int} {V : List Int} {R : Int → Prop} {met : Met} {done : List Int} : Found adj V R [] met done met done [] := by
  refine ⟨by simp, by simp, by simp, by simp, by simp, by simp, by simp, by simp, ?_, ?_⟩
  · intro _ a x b h; simp at h
  · intro a x b h; simp at h
theorem split_append {α : Type} {l r a b : List α} {x : α} (h : l ++ r = a ++ x :: b) : (∃ b', l = a ++ x :: b' ∧ b = b' ++ r) ∨ ∃ a', r = a' ++ x :: b ∧ a = l ++ a' := by
  rcases List.append_eq_append_iff.1 h with ⟨a', h1, h2⟩ | ⟨c', h1, h2⟩
  · exact .inr ⟨a', h2, h1⟩
  · cases c' with
    | nil => exact .inr ⟨[], by simpa using h2.symm, by simpa using h1.symm⟩
    | cons y c' =>
      rw [List.cons_append] at h2
      injection h2 with h3 h4
      subst h3
      exact .inl ⟨c', h1, h4⟩
theorem Found.skip {adj : Int → List Int} {V : List Int} {R : Int → Prop} {L : List Int} {m : Int} {met met' : Met} {done done' nw : List Int} (hm : met m = true) (h : Found adj V R L met done met' done' nw) : Found adj V R (m :: L) met done met' done' nw := by
  refine ⟨h.eq, h.met_, h.nd, h.fresh, h.inV, h.reach, h.closed, ?_, h.order, ?_⟩
  · intro y hy
    rcases List.mem_cons.1 hy with rfl | hy
    · exact (h.met_ _).2 (.inl hm)
    · exact h.roots y hy
  · intro a x b e
    rcases h.parent a x b e with h1 | h1
    · exact .inl (List.mem_cons_of_mem _ h1)
    · exact .inr h1
theorem Found.join {adj : Int → List Int} {V : List Int} {R : Int → Prop} {L : List Int} {m : Int} {met m1 met' : Met} {done d1 done' n1 n2 : List Int}
    (h1 : Found adj V R [m] met done m1 d1 n1) (h2 : Found adj V R L m1 d1 met' done' n2) : Found adj V R (m :: L) met done met' done' (n1 ++ n2) := by
  refine ⟨by rw [h2.eq, h1.eq, List.append_assoc], fun x => ?_, ?_, fun x hx => ?_, fun x hx => ?_, fun x hx => ?_, fun x hx y hy => ?_, fun y hy => ?_, fun hg a x b e y hy => ?_, fun a x b e => ?_⟩
  · rw [h2.met_, h1.met_, List.mem_append, or_assoc]
  · rw [List.nodup_append]
    refine ⟨h1.nd, h2.nd, fun a ha b hb e => ?_⟩
    subst e
    have := h2.fresh a hb
    rw [(h1.met_ a).2 (.inr ha)] at this
    cases this
  · rcases List.mem_append.1 hx with hx | hx
    · exact h1.fresh x hx
    · cases e : met x with
      | false => rfl
      | true =>
        have := h2.fresh x hx
        rw [(h1.met_ x).2 (.inl e)] at this
        cases this
  · rcases List.mem_append.1 hx with hx | hx
    · exact h1.inV x hx
    · exact h2.inV x hx
  · rcases List.mem_append.1 hx with hx | hx
    · exact h1.reach x hx
    · exact h2.reach x hx
  · rcases List.mem_append.1 hx with hx | hx
    · exact (h2.met_ y).2 (.inl (h1.closed x hx y hy))
    · exact h2.closed x hx y hy
  · rcases List.mem_cons.1 hy with rfl | hy
    · exact (h2.met_ _).2 (.inl (h1.roots _ (by simp)))
    · exact h2.roots y hy
  · rcases split_append e with ⟨b', e1, rfl⟩ | ⟨a', e2, rfl⟩
    · exact h1.order hg a x b' e1 y hy
    · have hg2 : ∀ g, m1 g = true → g ∉ d1 → ∀ x, R x → Reach adj g x := by
        intro g hm1 hd1
        rw [h1.eq, List.mem_append] at hd1
        rcases (h1.met_ g).1 hm1 with h | h
        · exact hg g h (fun h3 => hd1 (.inl h3))
        · exact absurd (.inr h) hd1
      have := h2.order hg2 a' x b e2 y hy
      rw [h1.eq, List.append_assoc] at this
      exact this
  · rcases split_append e with ⟨b', e1, rfl⟩ | ⟨a', e2, rfl⟩
    · rcases h1.parent a x b' e1 with h | ⟨p, hp, he⟩
      · rw [List.mem_singleton] at h
        exact .inl (by rw [h]; exact List.mem_cons_self)
      · exact .inr ⟨p, List.mem_append.2 (.inl hp), he⟩
    · rcases h2.parent a' x b e2 with h | h
      · exact .inl (List.mem_cons_of_mem _ h)
      · exact .inr h
theorem Found.close {adj : Int → List Int} {V : List Int} {R : Int → Prop} {n : Int} {met met' : Met} {done done' nw : List Int} (hn : n ∈ V) (hm : met n = false) (hR : R n)
    (h : Found adj V (Reach adj n) (adj n) (mark met n) done met' done' nw) (hRe : ∀ x, Reach adj n x → R x) : Found adj V R [n] met done met' (done' ++ [n]) (nw ++ [n]) := by
  have hnn : n ∉ nw := fun hx => by
    have := h.fresh n hx
    rw [(mark_iff met n n).2 (.inl rfl)] at this
    cases this
  refine ⟨by rw [h.eq, List.append_assoc], fun x => ?_, ?_, fun x hx => ?_, fun x hx => ?_, fun x hx => ?_, fun x hx y hy => ?_, fun y hy => ?_, fun hg a x b e y hy => ?_, fun a x b e => ?_⟩
  · rw [h.met_, mark_iff, List.mem_append, List.mem_singleton]
    constructor
    · rintro ((h1 | h1) | h1)
      · exact .inr (.inr h1)
      · exact .inl h1
      · exact .inr (.inl h1)
    · rintro (h1 | h1 | h1)
      · exact .inl (.inr h1)
      · exact .inr h1
      · exact .inl (.inl h1)
  · rw [List.nodup_append]
    refine ⟨h.nd, by simp, fun a ha b hb e => ?_⟩
    rw [List.mem_singleton] at hb
    subst e
    exact hnn (by rw [← hb]; exact ha)
  · rcases List.mem_append.1 hx with hx | hx
    · cases e : met x with
      | false => rfl
      | true =>
        have := h.fresh x hx
        rw [(mark_iff met n x).2 (.inr e)] at this
        cases this
    · rw [List.mem_singleton] at hx; rw [hx]; exact hm
  · rcases List.mem_append.1 hx with hx | hx
    · exact h.inV x hx
    · rw [List.mem_singleton] at hx; rw [hx]; exact hn
  · rcases List.mem_append.1 hx with hx | hx
    · exact hRe x (h.reach x hx)
    · rw [List.mem_singleton] at hx; rw [hx]; exact hR
  · rcases List.mem_append.1 hx with hx | hx
    · exact h.closed x hx y hy
    · rw [List.mem_singleton] at hx; rw [hx] at hy; exact h.roots y hy
  · rw [List.mem_singleton] at hy
    rw [hy]
    exact (h.met_ n).2 (.inl ((mark_iff met n n).2 (.inl rfl)))
  · have hg2 : ∀ g, mark met n g = true → g ∉ done → ∀ x, Reach adj n x → Reach adj g x := by
      intro g hm1 hd1 x hx
      rcases (mark_iff met n g).1 hm1 with rfl | h1
      · exact hx
      · exact (hg g h1 hd1 n hR).trans hx
    rcases split_append e with ⟨b', e1, rfl⟩ | ⟨a', e2, rfl⟩
    · exact h.order hg2 a x b' e1 y hy
    · cases a' with
      | cons z a' => simp at e2
      | nil =>
        simp at e2
        obtain ⟨rfl, rfl⟩ := e2
        rw [List.append_nil]
        have hm2 := h.roots y hy
        rcases (h.met_ y).1 hm2 with h1 | h1
        · by_cases hd : y ∈ done
          · exact .inl (List.mem_append.2 (.inl hd))
          · exact .inr (hg2 y h1 hd n (.refl n))
        · exact .inl (List.mem_append.2 (.inr h1))
  · rcases split_append e with ⟨b', e1, rfl⟩ | ⟨a', e2, rfl⟩
    · rcases h.parent a x b' e1 with h1 | ⟨p, hp, he⟩
      · exact .inr ⟨n, by simp, h1⟩
      · exact .inr ⟨p, List.mem_append.2 (.inl hp), he⟩
    · cases a' with
      | cons z a' => simp at e2
      | nil =>
        simp at e2
        exact .inl (by simp [e2.1])

theorem cnt_pos {V : List Int} {m : Met} {n : Int} (hn : n ∈ V) (hm : m n = false) : 0 < cnt V m :=
  List.length_pos_of_mem (List.mem_filter.2 ⟨hn, by simp [hm]⟩)
theorem visits_found {adj : Int → List Int} {V : List Int} {k : Nat}
    (ih : ∀ (n : Int) (met : Met) (done : List Int) (R : Int → Prop), n ∈ V → met n = false → cnt V met ≤ k → (∀ x, Reach adj n x → R x) → ∃ nw, Found adj V R [n] met done (visit adj k n met done).1 (visit adj k n met done).2 nw) :
    ∀ (L : List Int) (met : Met) (done : List Int) (R : Int → Prop), (∀ x ∈ L, x ∈ V) → cnt V met ≤ k → (∀ x ∈ L, ∀ y, Reach adj x y → R y) → ∃ nw, Found adj V R L met done (visits adj k L met done).1 (visits adj k L met done).2 nw
  | [], met, done, R, _, _, _ => ⟨[], by rw [visits]; exact Found.nil⟩
  | m :: L, met, done, R, hL, hc, hR => by
    rw [visits]
    cases e : met m with
    | true =>
      rw [if_pos rfl]
      obtain ⟨nw, h⟩ := visits_found ih L met done R (fun x hx => hL x (List.mem_cons_of_mem _ hx)) hc (fun x hx => hR x (List.mem_cons_of_mem _ hx))
      exact ⟨nw, h.skip e⟩
    | false =>
      rw [if_neg (by simp)]
      obtain ⟨n1, h1⟩ := ih m met done R (hL m List.mem_cons_self) e hc (hR m List.mem_cons_self)
      obtain ⟨n2, h2⟩ := visits_found ih L (visit adj k m met done).1 (visit adj k m met done).2 R (fun x hx => hL x (List.mem_cons_of_mem _ hx)) (Nat.le_trans (cnt_mono fun x hx => (h1.met_ x).2 (.inl hx)) hc) (fun x hx => hR x (List.mem_cons_of_mem _ hx))
      exact ⟨n1 ++ n2, h1.join h2⟩
theorem visit_found {adj : Int → List Int} {V : List Int} (hV : ∀ a ∈ V, ∀ b ∈ adj a, b ∈ V) : ∀ (k : Nat) (n : Int) (met : Met) (done : List Int) (R : Int → Prop), n ∈ V → met n = false → cnt V met ≤ k → (∀ x, Reach adj n x → R x) →
    ∃ nw, Found adj V R [n] met done (visit adj k n met done).1 (visit adj k n met done).2 nw ∧ ∃ i, nw = i ++ [n]
  | 0, n, met, done, R, hn, hm, hc, _ => by have := cnt_pos hn hm; omega
  | k + 1, n, met, done, R, hn, hm, hc, hR => by
    rw [visit]
    have hc2 := cnt_mark hn hm
    obtain ⟨nw, h⟩ := visits_found (k := k) (V := V) (fun n' met' done' R' a b c d => by
      obtain ⟨nw, h, _⟩ := visit_found hV k n' met' done' R' a b c d
      exact ⟨nw, h⟩) (adj n) (mark met n) done (Reach adj n) (hV n hn) (by omega) (fun x hx y hy => Reach.head hx hy)
    exact ⟨nw ++ [n], h.close hn hm (hR n (.refl n)) hR, nw, rfl⟩

/-! ### The machine with a stack. -/
def scan (l : List Int) (met : Met) (i : Nat) : Option Nat :=
  if h : i < l.length then if met l[i] = true then scan l met (i + 1) else some i else none
termination_by l.length - i
abbrev St := List (Int × Nat) × Met × List Int
def step (adj : Int → List Int) : St → St
  | ([], met, out) => ([], met, out)
  | ((n, i) :: S, met, out) => match scan (adj n) met i with
    | some j => (((adj n).getD j 0, 0) :: (n, j + 1) :: S, mark met ((adj n).getD j 0), out)
    | none => (S, met, out ++ [n])
def iter (adj : Int → List Int) : Nat → St → St
  | 0, s => s
  | q + 1, s => iter adj q (step adj s)
theorem iter_add (adj : Int → List Int) : ∀ (a b : Nat) (s : St), iter adj (a + b) s = iter adj b (iter adj a s)
  | 0, b, s => by rw [Nat.zero_add]; rfl
  | a + 1, b, s => by rw [show a + 1 + b = (a + b) + 1 by omega]; exact iter_add adj a b (step adj s)
theorem iter_nil (adj : Int → List Int) (met : Met) (out : List Int) : ∀ q, iter adj q ([], met, out) = ([], met, out)
  | 0 => rfl
  | q + 1 => iter_nil adj met out q
theorem scan_met {l : List Int} {met : Met} {i : Nat} (h : i < l.length) (hm : met l[i] = true) : scan l met i = scan l met (i + 1) := by
  rw [scan, dif_pos h, if_pos hm]
theorem scan_new {l : List Int} {met : Met} {i : Nat} (h : i < l.length) (hm : met l[i] = false) : scan l met i = some i := by
  rw [scan, dif_pos h, if_neg (by simp [hm])]
theorem scan_end {l : List Int} {met : Met} {i : Nat} (h : ¬ i < l.length) : scan l met i = none := by
  rw [scan, dif_neg h]
theorem step_met {adj : Int → List Int} {n : Int} {i : Nat} {S : List (Int × Nat)} {met : Met} {out : List Int} (h : i < (adj n).length) (hm : met (adj n)[i] = true) : step adj ((n, i) :: S, met, out) = step adj ((n, i + 1) :: S, met, out) := by
  simp only [step, scan_met h hm]
theorem step_new {adj : Int → List Int} {n : Int} {i : Nat} {S : List (Int × Nat)} {met : Met} {out : List Int} (h : i < (adj n).length) (hm : met (adj n)[i] = false) : step adj ((n, i) :: S, met, out) = (((adj n)[i], 0) :: (n, i + 1) :: S, mark met (adj n)[i], out) := by
  simp only [step, scan_new h hm, List.getD_eq_getElem?_getD, List.getElem?_eq_getElem h, Option.getD_some]
theorem step_end {adj : Int → List Int} {n : Int} {i : Nat} {S : List (Int × Nat)} {met : Met} {out : List Int} (h : ¬ i < (adj n).length) : step adj ((n, i) :: S, met, out) = (S, met, out ++ [n]) := by
  simp only [step, scan_end h]
theorem machine {adj : Int → List Int} {V : List Int} (hV : ∀ a ∈ V, ∀ b ∈ adj a, b ∈ V) : ∀ (k : Nat) (n : Int) (met : Met) (done : List Int) (S : List (Int × Nat)), n ∈ V → met n = false → cnt V met ≤ k →
    ∃ q, iter adj (q + 1) ((n, 0) :: S, mark met n, done) = (S, (visit adj k n met done).1, (visit adj k n met done).2)
  | 0, n, met, done, S, hn, hm, hc => by have := cnt_pos hn hm; omega
  | k + 1, n, met, done, S, hn, hm, hc => by
    rw [visit]
    have hc2 := cnt_mark hn hm
    have key : ∀ (L : List Int) (i : Nat) (met : Met) (done : List Int), L = (adj n).drop i → cnt V met ≤ k →
        ∃ q, iter adj (q + 1) ((n, i) :: S, met, done) = (S, (visits adj k L met done).1, (visits adj k L met done).2 ++ [n]) := by
      intro L
      induction L with
      | nil =>
        intro i met done hL _
        have h : ¬ i < (adj n).length := fun h => by have := List.drop_eq_getElem_cons h; rw [← hL] at this; cases this
        exact ⟨0, by rw [visits]; show iter adj 0 (step adj ((n, i) :: S, met, done)) = _; rw [step_end h]; rfl⟩
      | cons m L ih =>
        intro i met done hL hc3
        have h : i < (adj n).length := by
          refine Classical.byContradiction fun h => ?_
          rw [List.drop_eq_nil_of_le (by omega)] at hL
          cases hL
        rw [List.drop_eq_getElem_cons h] at hL
        injection hL with h1 h2
        have hmV : m ∈ V := by rw [h1]; exact hV n hn _ (List.getElem_mem h)
        rw [visits]
        cases e : met m with
        | true =>
          rw [if_pos rfl]
          obtain ⟨q, hq⟩ := ih (i + 1) met done h2 hc3
          refine ⟨q, ?_⟩
          rw [← hq]
          show iter adj q (step adj _) = iter adj q (step adj _)
          rw [step_met h (by rw [← h1]; exact e)]
        | false =>
          rw [if_neg (by simp)]
          obtain ⟨q1, hq1⟩ := machine hV k m met done ((n, i + 1) :: S) hmV e hc3
          obtain ⟨nw, hf, _⟩ := visit_found hV k m met done (fun _ => True) hmV e hc3 (fun _ _ => trivial)
          obtain ⟨q2, hq2⟩ := ih (i + 1) (visit adj k m met done).1 (visit adj k m met done).2 h2 (Nat.le_trans (cnt_mono fun x hx => (hf.met_ x).2 (.inl hx)) hc3)
          refine ⟨(q1 + 1) + (q2 + 1), ?_⟩
          show iter adj ((q1 + 1) + (q2 + 1)) (step adj _) = _
          rw [step_new h (by rw [← h1]; exact e), ← h1, iter_add, hq1, hq2]
    obtain ⟨q, hq⟩ := key (adj n) 0 (mark met n) done (by simp) (by omega)
    exact ⟨q, hq⟩
end Go.Proofs.Ytjkclhpibielfaa.Grf
