import Derived.Test.YtmlikgmcekofbaaProg
import Derived.Shelf.Slices.SearchI
import Derived.Shelf.Slices.Empties
import Derived.Shelf.Spec.SlicesInsert
import Derived.Shelf.Spec.SlicesInsertGrow
import Derived.WalkKit
import Derived.Test.YtmlikgmcekofbaaMCom3
section
/- The library's contracts for slices.BinarySearch and slices.Insert at this program (the numbers are this seat's). -/
namespace Go.Proofs.Ytmlikgmcekofbaa
open Go.Shelf
def lays25_ren : Go.Shelf.Ren := ⟨fun | 25 => 28 | 31 => 34 | 32 => 35 | 37 => 38 | n => n, fun | 22 => 29 | 3 => 3 | 4 => 4 | 40 => 62 | 0 => 0 | n => n, fun | n => n⟩
theorem lays25 : Go.Proofs.Lays2.n25 Try.prog lays25_ren := {
  mixed := by kernel_rfl
  f25 := Try.func28.trans (congrArg some (by kernel_rfl))
  f31 := Try.func34.trans (congrArg some (by kernel_rfl))
  f32 := Try.func35.trans (congrArg some (by kernel_rfl))
  f37 := Try.func38.trans (congrArg some (by kernel_rfl))
  t0 := Try.underlying0
  a0 := Try.isAgg0
  z0 := Try.sizeOf0
  v0 := Try.zeroValue0
  t3 := Try.underlying3
  a3 := Try.isAgg3
  z3 := Try.sizeOf3
  v3 := Try.zeroValue3
  t4 := Try.underlying4
  a4 := Try.isAgg4
  z4 := Try.sizeOf4
  v4 := Try.zeroValue4
  t22 := Try.underlying29
  a22 := Try.isAgg29
  z22 := Try.sizeOf29
  v22 := Try.zeroValue29
  t40 := Try.underlying62
  a40 := Try.isAgg62
  z40 := Try.sizeOf62
  v40 := Try.zeroValue62 }
def lays21_ren : Go.Shelf.Ren := ⟨fun | 21 => 29 | 27 => 36 | 28 => 37 | 35 => 39 | 39 => 40 | n => n, fun | 22 => 29 | 3 => 3 | 4 => 4 | 0 => 0 | n => n, fun | n => n⟩
theorem lays21 : Go.Proofs.Lays2.n21 Try.prog lays21_ren := {
  mixed := by kernel_rfl
  f21 := Try.func29.trans (congrArg some (by kernel_rfl))
  f27 := Try.func36.trans (congrArg some (by kernel_rfl))
  f28 := Try.func37.trans (congrArg some (by kernel_rfl))
  f35 := Try.func39.trans (congrArg some (by kernel_rfl))
  f39 := Try.func40.trans (congrArg some (by kernel_rfl))
  t0 := Try.underlying0
  a0 := Try.isAgg0
  z0 := Try.sizeOf0
  v0 := Try.zeroValue0
  t3 := Try.underlying3
  a3 := Try.isAgg3
  z3 := Try.sizeOf3
  v3 := Try.zeroValue3
  t4 := Try.underlying4
  a4 := Try.isAgg4
  z4 := Try.sizeOf4
  v4 := Try.zeroValue4
  t22 := Try.underlying29
  a22 := Try.isAgg29
  z22 := Try.sizeOf29
  v22 := Try.zeroValue29
  i3 := by kernel_rfl }
end Go.Proofs.Ytmlikgmcekofbaa
end

section
/- Depth-first search in plain lists: the recursive visit, the machine with a stack, and what they find. -/
set_option linter.unusedVariables false
set_option linter.unusedSimpArgs false
namespace Go.Proofs.Ytmlikgmcekofbaa.Grf

/-- b can be reached from a. -/
inductive Reach (adj : Int → List Int) : Int → Int → Prop
  | refl (a : Int) : Reach adj a a
  | tail {a b c : Int} (h : Reach adj a b) (e : c ∈ adj b) : Reach adj a c
theorem Reach.trans {adj : Int → List Int} {a b c : Int} (h : Reach adj a b) (h2 : Reach adj b c) : Reach adj a c := by
  induction h2 with
  | refl => exact h
  | tail _ e ih => exact .tail ih e
theorem Reach.one {adj : Int → List Int} {a b : Int} (e : b ∈ adj a) : Reach adj a b := .tail (.refl a) e
theorem Reach.head {adj : Int → List Int} {a b c : Int} (e : b ∈ adj a) (h : Reach adj b c) : Reach adj a c := (Reach.one e).trans h
theorem Reach.mem {adj : Int → List Int} {V : List Int} (hV : ∀ a ∈ V, ∀ b ∈ adj a, b ∈ V) {a b : Int} (h : Reach adj a b) (ha : a ∈ V) : b ∈ V := by
  induction h with
  | refl => exact ha
  | tail _ e ih => exact hV _ ih _ e
theorem Reach.closed {adj : Int → List Int} {M : Int → Bool} {a b : Int} (h : Reach adj a b) (ha : M a = true) (hM : ∀ x, M x = true → ∀ y ∈ adj x, M y = true) : M b = true := by
  induction h with
  | refl => exact ha
  | tail _ e ih => exact hM _ ih _ e

abbrev Met := Int → Bool
def mark (m : Met) (n : Int) : Met := fun x => if x = n then true else m x
theorem mark_iff (m : Met) (n x : Int) : mark m n x = true ↔ x = n ∨ m x = true := by unfold mark; split <;> simp_all
def cnt (V : List Int) (m : Met) : Nat := (V.filter fun x => !m x).length
theorem filter_le {α : Type} (p q : α → Bool) : ∀ (l : List α), (∀ x ∈ l, p x = true → q x = true) → (l.filter p).length ≤ (l.filter q).length
  | [], _ => Nat.le_refl _
  | a :: l, h => by
    have ih := filter_le p q l (fun x hx => h x (List.mem_cons_of_mem _ hx))
    by_cases hp : p a = true
    · simp [hp, h a List.mem_cons_self hp]; exact ih
    · by_cases hq : q a = true
      · simp [hp, hq]; omega
      · simp [hp, hq]; exact ih
theorem filter_lt {α : Type} (p q : α → Bool) : ∀ (l : List α), (∀ x ∈ l, p x = true → q x = true) → (∃ x ∈ l, p x = false ∧ q x = true) → (l.filter p).length < (l.filter q).length
  | [], _, h => by obtain ⟨x, hx, _⟩ := h; cases hx
  | a :: l, h, he => by
    have ih := filter_le p q l (fun x hx => h x (List.mem_cons_of_mem _ hx))
    obtain ⟨x, hx, h1, h2⟩ := he
    rcases List.mem_cons.1 hx with rfl | hx
    · simp [h1, h2]; omega
    · have ih2 := filter_lt p q l (fun x hx => h x (List.mem_cons_of_mem _ hx)) ⟨x, hx, h1, h2⟩
      by_cases hp : p a = true
      · simp [hp, h a List.mem_cons_self hp]; exact ih2
      · by_cases hq : q a = true
        · simp [hp, hq]; omega
        · simp [hp, hq]; exact ih2
theorem cnt_mark {V : List Int} {m : Met} {n : Int} (hn : n ∈ V) (hm : m n = false) : cnt V (mark m n) < cnt V m := by
  refine filter_lt _ _ V (fun x _ h => ?_) ⟨n, hn, ?_, ?_⟩
  · have h1 : mark m n x = false := by simpa using h
    cases h2 : m x with
    | false => rfl
    | true => rw [(mark_iff m n x).2 (.inr h2)] at h1; cases h1
  · have := (mark_iff m n n).2 (.inl rfl)
    simp [this]
  · simp [hm]
theorem cnt_mono {V : List Int} {m m' : Met} (h : ∀ x, m x = true → m' x = true) : cnt V m' ≤ cnt V m := by
  refine filter_le _ _ V fun x _ hx => ?_
  cases h2 : m x with
  | false => rfl
  | true => have h1 := h x h2; simp [h1] at hx

mutual
/-- The search from n: the met nodes and the finished ones, in their order. -/
def visit (adj : Int → List Int) : Nat → Int → Met → List Int → Met × List Int
  | 0, _, met, done => (met, done)
  | k + 1, n, met, done => ((visits adj k (adj n) (mark met n) done).1, (visits adj k (adj n) (mark met n) done).2 ++ [n])
def visits (adj : Int → List Int) : Nat → List Int → Met → List Int → Met × List Int
  | _, [], met, done => (met, done)
  | k, m :: l, met, done => if met m = true then visits adj k l met done else visits adj k l (visit adj k m met done).1 (visit adj k m met done).2
end

/-- What a search over the roots L that began at (met, done) has found. -/
structure Found (adj : Int → List Int) (V : List Int) (R : Int → Prop) (L : List Int) (met : Met) (done : List Int) (met' : Met) (done' nw : List Int) : Prop where
  eq : done' = done ++ nw
  met_ : ∀ x, met' x = true ↔ met x = true ∨ x ∈ nw
  nd : nw.Nodup
  fresh : ∀ x ∈ nw, met x = false
  inV : ∀ x ∈ nw, x ∈ V
  reach : ∀ x ∈ nw, R x
  closed : ∀ x ∈ nw, ∀ y ∈ adj x, met' y = true
  roots : ∀ y ∈ L, met' y = true
  order : (∀ g, met g = true → g ∉ done → ∀ x, R x → Reach adj g x) → ∀ a x b, nw = a ++ x :: b → ∀ y ∈ adj x, y ∈ done ++ a ∨ Reach adj y x
  parent : ∀ a x b, nw = a ++ x :: b → x ∈ L ∨ ∃ m ∈ b, x ∈ adj m
theorem Found.nil {adj : Int → List Int} {V : List Int} {R : Int → Prop} {met : Met} {done : List Int} : Found adj V R [] met done met done [] := by
  refine ⟨by simp, by simp, by simp, by simp, by simp, by simp, by simp, by simp, ?_, ?_⟩
  · intro _ a x b h; simp at h
  · intro a x b h; simp at h
theorem split_append {α : Type} {l r a b : List α} {x : α} (h : l ++ r = a ++ x :: b) : (∃ b', l = a ++ x :: b' ∧ b = b' ++ r) ∨ ∃ a', r = a' ++ x :: b ∧ a = l ++ a' := by
  rcases List.append_eq_append_iff.1 h with ⟨a', h1, h2⟩ | ⟨c', h1, h2⟩
  · exact .inr ⟨a', h2, h1⟩
  · cases c' with
    | nil => exact .inr ⟨[], by simpa using h2.symm, by simpa using h1.symm⟩
    | cons y c' =>
      rw [List.cons_append] at h2
      injection h2 with h3 h4
      subst h3
      exact .inl ⟨c', h1, h4⟩
theorem Found.skip {adj : Int → List Int} {V : List Int} {R : Int → Prop} {L : List Int} {m : Int} {met met' : Met} {done done' nw : List Int} (hm : met m = true) (h : Found adj V R L met done met' done' nw) : Found adj V R (m :: L) met done met' done' nw := by
  refine ⟨h.eq, h.met_, h.nd, h.fresh, h.inV, h.reach, h.closed, ?_, h.order, ?_⟩
  · intro y hy
    rcases List.mem_cons.1 hy with rfl | hy
    · exact (h.met_ _).2 (.inl hm)
    · exact h.roots y hy
  · intro a x b e
    rcases h.parent a x b e with h1 | h1
    · exact .inl (List.mem_cons_of_mem _ h1)
    · exact .inr h1
theorem Found.join {adj : Int → List Int} {V : List Int} {R : Int → Prop} {L : List Int} {m : Int} {met m1 met' : Met} {done d1 done' n1 n2 : List Int}
    (h1 : Found adj V R [m] met done m1 d1 n1) (h2 : Found adj V R L m1 d1 met' done' n2) : Found adj V R (m :: L) met done met' done' (n1 ++ n2) := by
  refine ⟨by rw [h2.eq, h1.eq, List.append_assoc], fun x => ?_, ?_, fun x hx => ?_, fun x hx => ?_, fun x hx => ?_, fun x hx y hy => ?_, fun y hy => ?_, fun hg a x b e y hy => ?_, fun a x b e => ?_⟩
  · rw [h2.met_, h1.met_, List.mem_append, or_assoc]
  · rw [List.nodup_append]
    refine ⟨h1.nd, h2.nd, fun a ha b hb e => ?_⟩
    subst e
    have := h2.fresh a hb
    rw [(h1.met_ a).2 (.inr ha)] at this
    cases this
  · rcases List.mem_append.1 hx with hx | hx
    · exact h1.fresh x hx
    · cases e : met x with
      | false => rfl
      | true =>
        have := h2.fresh x hx
        rw [(h1.met_ x).2 (.inl e)] at this
        cases this
  · rcases List.mem_append.1 hx with hx | hx
    · exact h1.inV x hx
    · exact h2.inV x hx
  · rcases List.mem_append.1 hx with hx | hx
    · exact h1.reach x hx
    · exact h2.reach x hx
  · rcases List.mem_append.1 hx with hx | hx
    · exact (h2.met_ y).2 (.inl (h1.closed x hx y hy))
    · exact h2.closed x hx y hy
  · rcases List.mem_cons.1 hy with rfl | hy
    · exact (h2.met_ _).2 (.inl (h1.roots _ (by simp)))
    · exact h2.roots y hy
  · rcases split_append e with ⟨b', e1, rfl⟩ | ⟨a', e2, rfl⟩
    · exact h1.order hg a x b' e1 y hy
    · have hg2 : ∀ g, m1 g = true → g ∉ d1 → ∀ x, R x → Reach adj g x := by
        intro g hm1 hd1
        rw [h1.eq, List.mem_append] at hd1
        rcases (h1.met_ g).1 hm1 with h | h
        · exact hg g h (fun h3 => hd1 (.inl h3))
        · exact absurd (.inr h) hd1
      have := h2.order hg2 a' x b e2 y hy
      rw [h1.eq, List.append_assoc] at this
      exact this
  · rcases split_append e with ⟨b', e1, rfl⟩ | ⟨a', e2, rfl⟩
    · rcases h1.parent a x b' e1 with h | ⟨p, hp, he⟩
      · rw [List.mem_singleton] at h
        exact .inl (by rw [h]; exact List.mem_cons_self)
      · exact .inr ⟨p, List.mem_append.2 (.inl hp), he⟩
    · rcases h2.parent a' x b e2 with h | h
      · exact .inl (List.mem_cons_of_mem _ h)
      · exact .inr h
theorem Found.close {adj : Int → List Int} {V : List Int} {R : Int → Prop} {n : Int} {met met' : Met} {done done' nw : List Int} (hn : n ∈ V) (hm : met n = false) (hR : R n)
    (h : Found adj V (Reach adj n) (adj n) (mark met n) done met' done' nw) (hRe : ∀ x, Reach adj n x → R x) : Found adj V R [n] met done met' (done' ++ [n]) (nw ++ [n]) := by
  have hnn : n ∉ nw := fun hx => by
    have := h.fresh n hx
    rw [(mark_iff met n n).2 (.inl rfl)] at this
    cases this
  refine ⟨by rw [h.eq, List.append_assoc], fun x => ?_, ?_, fun x hx => ?_, fun x hx => ?_, fun x hx => ?_, fun x hx y hy => ?_, fun y hy => ?_, fun hg a x b e y hy => ?_, fun a x b e => ?_⟩
  · rw [h.met_, mark_iff, List.mem_append, List.mem_singleton]
    constructor
    · rintro ((h1 | h1) | h1)
      · exact .inr (.inr h1)
      · exact .inl h1
      · exact .inr (.inl h1)
    · rintro (h1 | h1 | h1)
      · exact .inl (.inr h1)
      · exact .inr h1
      · exact .inl (.inl h1)
  · rw [List.nodup_append]
    refine ⟨h.nd, by simp, fun a ha b hb e => ?_⟩
    rw [List.mem_singleton] at hb
    subst e
    exact hnn (by rw [← hb]; exact ha)
  · rcases List.mem_append.1 hx with hx | hx
    · cases e : met x with
      | false => rfl
      | true =>
        have := h.fresh x hx
        rw [(mark_iff met n x).2 (.inr e)] at this
        cases this
    · rw [List.mem_singleton] at hx; rw [hx]; exact hm
  · rcases List.mem_append.1 hx with hx | hx
    · exact h.inV x hx
    · rw [List.mem_singleton] at hx; rw [hx]; exact hn
  · rcases List.mem_append.1 hx with hx | hx
    · exact hRe x (h.reach x hx)
    · rw [List.mem_singleton] at hx; rw [hx]; exact hR
  · rcases List.mem_append.1 hx with hx | hx
    · exact h.closed x hx y hy
    · rw [List.mem_singleton] at hx; rw [hx] at hy; exact h.roots y hy
  · rw [List.mem_singleton] at hy
    rw [hy]
    exact (h.met_ n).2 (.inl ((mark_iff met n n).2 (.inl rfl)))
  · have hg2 : ∀ g, mark met n g = true → g ∉ done → ∀ x, Reach adj n x → Reach adj g x := by
      intro g hm1 hd1 x hx
      rcases (mark_iff met n g).1 hm1 with rfl | h1
      · exact hx
      · exact (hg g h1 hd1 n hR).trans hx
    rcases split_append e with ⟨b', e1, rfl⟩ | ⟨a', e2, rfl⟩
    · exact h.order hg2 a x b' e1 y hy
    · cases a' with
      | cons z a' => simp at e2
      | nil =>
        simp at e2
        obtain ⟨rfl, rfl⟩ := e2
        rw [List.append_nil]
        have hm2 := h.roots y hy
        rcases (h.met_ y).1 hm2 with h1 | h1
        · by_cases hd : y ∈ done
          · exact .inl (List.mem_append.2 (.inl hd))
          · exact .inr (hg2 y h1 hd n (.refl n))
        · exact .inl (List.mem_append.2 (.inr h1))
  · rcases split_append e with ⟨b', e1, rfl⟩ | ⟨a', e2, rfl⟩
    · rcases h.parent a x b' e1 with h1 | ⟨p, hp, he⟩
      · exact .inr ⟨n, by simp, h1⟩
      · exact .inr ⟨p, List.mem_append.2 (.inl hp), he⟩
    · cases a' with
      | cons z a' => simp at e2
      | nil =>
        simp at e2
        exact .inl (by simp [e2.1])

theorem cnt_pos {V : List Int} {m : Met} {n : Int} (hn : n ∈ V) (hm : m n = false) : 0 < cnt V m :=
  List.length_pos_of_mem (List.mem_filter.2 ⟨hn, by simp [hm]⟩)
theorem visits_found {adj : Int → List Int} {V : List Int} {k : Nat}
    (ih : ∀ (n : Int) (met : Met) (done : List Int) (R : Int → Prop), n ∈ V → met n = false → cnt V met ≤ k → (∀ x, Reach adj n x → R x) → ∃ nw, Found adj V R [n] met done (visit adj k n met done).1 (visit adj k n met done).2 nw) :
    ∀ (L : List Int) (met : Met) (done : List Int) (R : Int → Prop), (∀ x ∈ L, x ∈ V) → cnt V met ≤ k → (∀ x ∈ L, ∀ y, Reach adj x y → R y) → ∃ nw, Found adj V R L met done (visits adj k L met done).1 (visits adj k L met done).2 nw
  | [], met, done, R, _, _, _ => ⟨[], by rw [visits]; exact Found.nil⟩
  | m :: L, met, done, R, hL, hc, hR => by
    rw [visits]
    cases e : met m with
    | true =>
      rw [if_pos rfl]
      obtain ⟨nw, h⟩ := visits_found ih L met done R (fun x hx => hL x (List.mem_cons_of_mem _ hx)) hc (fun x hx => hR x (List.mem_cons_of_mem _ hx))
      exact ⟨nw, h.skip e⟩
    | false =>
      rw [if_neg (by simp)]
      obtain ⟨n1, h1⟩ := ih m met done R (hL m List.mem_cons_self) e hc (hR m List.mem_cons_self)
      obtain ⟨n2, h2⟩ := visits_found ih L (visit adj k m met done).1 (visit adj k m met done).2 R (fun x hx => hL x (List.mem_cons_of_mem _ hx)) (Nat.le_trans (cnt_mono fun x hx => (h1.met_ x).2 (.inl hx)) hc) (fun x hx => hR x (List.mem_cons_of_mem _ hx))
      exact ⟨n1 ++ n2, h1.join h2⟩
theorem visit_found {adj : Int → List Int} {V : List Int} (hV : ∀ a ∈ V, ∀ b ∈ adj a, b ∈ V) : ∀ (k : Nat) (n : Int) (met : Met) (done : List Int) (R : Int → Prop), n ∈ V → met n = false → cnt V met ≤ k → (∀ x, Reach adj n x → R x) →
    ∃ nw, Found adj V R [n] met done (visit adj k n met done).1 (visit adj k n met done).2 nw ∧ ∃ i, nw = i ++ [n]
  | 0, n, met, done, R, hn, hm, hc, _ => by have := cnt_pos hn hm; omega
  | k + 1, n, met, done, R, hn, hm, hc, hR => by
    rw [visit]
    have hc2 := cnt_mark hn hm
    obtain ⟨nw, h⟩ := visits_found (k := k) (V := V) (fun n' met' done' R' a b c d => by
      obtain ⟨nw, h, _⟩ := visit_found hV k n' met' done' R' a b c d
      exact ⟨nw, h⟩) (adj n) (mark met n) done (Reach adj n) (hV n hn) (by omega) (fun x hx y hy => Reach.head hx hy)
    exact ⟨nw ++ [n], h.close hn hm (hR n (.refl n)) hR, nw, rfl⟩

/-! ### The machine with a stack. -/
def scan (l : List Int) (met : Met) (i : Nat) : Option Nat :=
  if h : i < l.length then if met l[i] = true then scan l met (i + 1) else some i else none
termination_by l.length - i
abbrev St := List (Int × Nat) × Met × List Int
def step (adj : Int → List Int) : St → St
  | ([], met, out) => ([], met, out)
  | ((n, i) :: S, met, out) => match scan (adj n) met i with
    | some j => (((adj n).getD j 0, 0) :: (n, j + 1) :: S, mark met ((adj n).getD j 0), out)
    | none => (S, met, out ++ [n])
def iter (adj : Int → List Int) : Nat → St → St
  | 0, s => s
  | q + 1, s => iter adj q (step adj s)
theorem iter_add (adj : Int → List Int) : ∀ (a b : Nat) (s : St), iter adj (a + b) s = iter adj b (iter adj a s)
  | 0, b, s => by rw [Nat.zero_add]; rfl
  | a + 1, b, s => by rw [show a + 1 + b = (a + b) + 1 by omega]; exact iter_add adj a b (step adj s)
theorem scan_met {l : List Int} {met : Met} {i : Nat} (h : i < l.length) (hm : met l[i] = true) : scan l met i = scan l met (i + 1) := by
  rw [scan, dif_pos h, if_pos hm]
theorem scan_new {l : List Int} {met : Met} {i : Nat} (h : i < l.length) (hm : met l[i] = false) : scan l met i = some i := by
  rw [scan, dif_pos h, if_neg (by simp [hm])]
theorem scan_end {l : List Int} {met : Met} {i : Nat} (h : ¬ i < l.length) : scan l met i = none := by
  rw [scan, dif_neg h]
theorem step_met {adj : Int → List Int} {n : Int} {i : Nat} {S : List (Int × Nat)} {met : Met} {out : List Int} (h : i < (adj n).length) (hm : met (adj n)[i] = true) : step adj ((n, i) :: S, met, out) = step adj ((n, i + 1) :: S, met, out) := by
  simp only [step, scan_met h hm]
theorem step_new {adj : Int → List Int} {n : Int} {i : Nat} {S : List (Int × Nat)} {met : Met} {out : List Int} (h : i < (adj n).length) (hm : met (adj n)[i] = false) : step adj ((n, i) :: S, met, out) = (((adj n)[i], 0) :: (n, i + 1) :: S, mark met (adj n)[i], out) := by
  simp only [step, scan_new h hm, List.getD_eq_getElem?_getD, List.getElem?_eq_getElem h, Option.getD_some]
theorem step_end {adj : Int → List Int} {n : Int} {i : Nat} {S : List (Int × Nat)} {met : Met} {out : List Int} (h : ¬ i < (adj n).length) : step adj ((n, i) :: S, met, out) = (S, met, out ++ [n]) := by
  simp only [step, scan_end h]
theorem machine {adj : Int → List Int} {V : List Int} (hV : ∀ a ∈ V, ∀ b ∈ adj a, b ∈ V) : ∀ (k : Nat) (n : Int) (met : Met) (done : List Int) (S : List (Int × Nat)), n ∈ V → met n = false → cnt V met ≤ k →
    ∃ q, iter adj (q + 1) ((n, 0) :: S, mark met n, done) = (S, (visit adj k n met done).1, (visit adj k n met done).2)
  | 0, n, met, done, S, hn, hm, hc => by have := cnt_pos hn hm; omega
  | k + 1, n, met, done, S, hn, hm, hc => by
    rw [visit]
    have hc2 := cnt_mark hn hm
    have key : ∀ (L : List Int) (i : Nat) (met : Met) (done : List Int), L = (adj n).drop i → cnt V met ≤ k →
        ∃ q, iter adj (q + 1) ((n, i) :: S, met, done) = (S, (visits adj k L met done).1, (visits adj k L met done).2 ++ [n]) := by
      intro L
      induction L with
      | nil =>
        intro i met done hL _
        have h : ¬ i < (adj n).length := fun h => by have := List.drop_eq_getElem_cons h; rw [← hL] at this; cases this
        exact ⟨0, by rw [visits]; show iter adj 0 (step adj ((n, i) :: S, met, done)) = _; rw [step_end h]; rfl⟩
      | cons m L ih =>
        intro i met done hL hc3
        have h : i < (adj n).length := by
          refine Classical.byContradiction fun h => ?_
          rw [List.drop_eq_nil_of_le (by omega)] at hL
          cases hL
        rw [List.drop_eq_getElem_cons h] at hL
        injection hL with h1 h2
        have hmV : m ∈ V := by rw [h1]; exact hV n hn _ (List.getElem_mem h)
        rw [visits]
        cases e : met m with
        | true =>
          rw [if_pos rfl]
          obtain ⟨q, hq⟩ := ih (i + 1) met done h2 hc3
          refine ⟨q, ?_⟩
          rw [← hq]
          show iter adj q (step adj _) = iter adj q (step adj _)
          rw [step_met h (by rw [← h1]; exact e)]
        | false =>
          rw [if_neg (by simp)]
          obtain ⟨q1, hq1⟩ := machine hV k m met done ((n, i + 1) :: S) hmV e hc3
          obtain ⟨nw, hf, _⟩ := visit_found hV k m met done (fun _ => True) hmV e hc3 (fun _ _ => trivial)
          obtain ⟨q2, hq2⟩ := ih (i + 1) (visit adj k m met done).1 (visit adj k m met done).2 h2 (Nat.le_trans (cnt_mono fun x hx => (hf.met_ x).2 (.inl hx)) hc3)
          refine ⟨(q1 + 1) + (q2 + 1), ?_⟩
          show iter adj ((q1 + 1) + (q2 + 1)) (step adj _) = _
          rw [step_new h (by rw [← h1]; exact e), ← h1, iter_add, hq1, hq2]
    obtain ⟨q, hq⟩ := key (adj n) 0 (mark met n) done (by simp) (by omega)
    exact ⟨q, hq⟩
end Go.Proofs.Ytmlikgmcekofbaa.Grf
end

section
/- Tarjan's algorithm as steps on plain tables: what holds between the steps, and that the numbers given are those of the components. -/
set_option linter.unusedVariables false
set_option linter.unusedSimpArgs false
namespace Go.Proofs.Ytmlikgmcekofbaa.Grf.Tj

/-- c is the nearest open node at or below a. -/
def near (ord : Int → Int) (C : List (Int × Nat)) (c a : Int) : Prop := ord c ≤ ord a ∧ ∀ d ∈ C, ord d.1 ≤ ord a → ord d.1 ≤ ord c
/-- The edge from a to b has been looked at. -/
def expl (adj : Int → List Int) (C : List (Int × Nat)) (a b : Int) : Prop := b ∈ adj a ∧ ∀ d ∈ C, d.1 = a → b ∈ (adj a).take d.2

structure Inv (adj : Int → List Int) (V : List Int) (ord low : Int → Int) (stk : List Int) (C : List (Int × Nat)) (comp : Int → Int) (count next : Nat) : Prop where
  ordV : ∀ x, ord x ≠ 0 → x ∈ V
  nn : ∀ x, 0 ≤ ord x ∧ ord x ≤ next
  sv : ∀ x ∈ stk, ord x ≠ 0
  sp : stk.Pairwise (fun a b => ord b < ord a)
  cp : C.Pairwise (fun a b => ord b.1 < ord a.1)
  cs : ∀ c ∈ C, c.1 ∈ stk
  up : ∀ c ∈ C, ∀ y ∈ stk, ord c.1 ≤ ord y → Reach adj c.1 y
  down : ∀ y ∈ stk, ∃ c ∈ C, ord c.1 ≤ ord y ∧ Reach adj y c.1
  fin : ∀ x, ord x ≠ 0 → x ∉ stk → ∀ y ∈ adj x, ord y ≠ 0 ∧ y ∉ stk
  vis : ∀ a ∈ stk, ∀ b, expl adj C a b → ord b ≠ 0
  lowE : ∀ c ∈ C, low c.1 ≤ ord c.1 ∧ ∃ y ∈ stk, ord y = low c.1 ∧ Reach adj c.1 y
  lowA : ∀ c ∈ C, ∀ a ∈ stk, near ord C c.1 a → ∀ b ∈ stk, expl adj C a b → low c.1 ≤ ord b
  cl : ∀ x, ord x ≠ 0 → x ∉ stk → 0 ≤ comp x ∧ comp x < count
  cm : ∀ x y, ord x ≠ 0 → x ∉ stk → ord y ≠ 0 → y ∉ stk → (comp x = comp y ↔ Reach adj x y ∧ Reach adj y x)

def put (f : Int → Int) (x v : Int) : Int → Int := fun y => if y = x then v else f y
theorem put_at (f : Int → Int) (x v : Int) : put f x v x = v := if_pos rfl
theorem put_ne (f : Int → Int) {x v y : Int} (h : y ≠ x) : put f x v y = f y := if_neg h

theorem sorted_inj {ord : Int → Int} : ∀ {l : List Int}, l.Pairwise (fun a b => ord b < ord a) → ∀ {x y : Int}, x ∈ l → y ∈ l → ord x = ord y → x = y
  | [], _, x, _, hx, _, _ => by cases hx
  | a :: l, h, x, y, hx, hy, e => by
    obtain ⟨h1, h2⟩ := List.pairwise_cons.1 h
    rcases List.mem_cons.1 hx with ex | kx <;> rcases List.mem_cons.1 hy with ey | ky
    · rw [ex, ey]
    · have := h1 y ky; rw [← ex] at this; omega
    · have := h1 x kx; rw [← ey] at this; omega
    · exact sorted_inj h2 kx ky e

section
variable {adj : Int → List Int} {V : List Int} {ord low : Int → Int} {stk : List Int} {C : List (Int × Nat)} {comp : Int → Int} {count next : Nat}

theorem take_succ_mem {l : List Int} {i : Nat} (h : i < l.length) {b : Int} (hb : b ∈ l.take (i + 1)) : b ∈ l.take i ∨ b = l[i] := by
  rw [List.take_add_one, List.getElem?_eq_getElem h] at hb
  rcases List.mem_append.1 hb with hb | hb
  · exact .inl hb
  · exact .inr (by simpa using hb)

/-- An edge has been looked at that leads to a node visited before: the counter moves on. -/
theorem Inv.old {n : Int} {i : Nat} (h : Inv adj V ord low stk ((n, i) :: C) comp count next) (hi : i < (adj n).length) (hs : ord (adj n)[i] ≠ 0) (hst : (adj n)[i] ∉ stk) :
    Inv adj V ord low stk ((n, i + 1) :: C) comp count next := by
  have hE : ∀ a b, expl adj ((n, i + 1) :: C) a b → expl adj ((n, i) :: C) a b ∨ a = n ∧ b = (adj n)[i] := fun a b hb => by
    by_cases ha : a = n
    · subst ha
      rcases take_succ_mem hi (hb.2 (a, i + 1) List.mem_cons_self rfl) with h1 | h1
      · refine .inl ⟨hb.1, fun d hd e => ?_⟩
        rcases List.mem_cons.1 hd with rfl | hd
        · exact h1
        · exact hb.2 d (List.mem_cons_of_mem _ hd) e
      · exact .inr ⟨rfl, h1⟩
    · refine .inl ⟨hb.1, fun d hd e => ?_⟩
      rcases List.mem_cons.1 hd with rfl | hd
      · exact absurd e.symm ha
      · exact hb.2 d (List.mem_cons_of_mem _ hd) e
  have hM : ∀ (P : Int → Prop), (∀ c ∈ (n, i) :: C, P c.1) → ∀ c ∈ (n, i + 1) :: C, P c.1 := fun P hP c hc => by
    rcases List.mem_cons.1 hc with rfl | hc
    · exact hP (n, i) List.mem_cons_self
    · exact hP c (List.mem_cons_of_mem _ hc)
  have hM' : ∀ (P : Int → Prop), (∃ c ∈ (n, i) :: C, P c.1) → ∃ c ∈ (n, i + 1) :: C, P c.1 := fun P ⟨c, hc, hP⟩ => by
    rcases List.mem_cons.1 hc with rfl | hc
    · exact ⟨(n, i + 1), List.mem_cons_self, hP⟩
    · exact ⟨c, List.mem_cons_of_mem _ hc, hP⟩
  have hN : ∀ c a, near ord ((n, i + 1) :: C) c a → near ord ((n, i) :: C) c a := fun c a hn => ⟨hn.1, fun d hd => by
    rcases List.mem_cons.1 hd with rfl | hd
    · exact hn.2 (n, i + 1) List.mem_cons_self
    · exact hn.2 d (List.mem_cons_of_mem _ hd)⟩
  refine ⟨h.ordV, h.nn, h.sv, h.sp, ?_, hM (fun x => x ∈ stk) h.cs, hM (fun x => ∀ y ∈ stk, ord x ≤ ord y → Reach adj x y) h.up, fun y hy => hM' (fun x => ord x ≤ ord y ∧ Reach adj y x) (h.down y hy), h.fin, ?_, hM (fun x => low x ≤ ord x ∧ ∃ y ∈ stk, ord y = low x ∧ Reach adj x y) h.lowE, ?_, h.cl, h.cm⟩
  · obtain ⟨h1, h2⟩ := List.pairwise_cons.1 h.cp
    exact List.pairwise_cons.2 ⟨h1, h2⟩
  · intro a ha b hb
    rcases hE a b hb with h1 | ⟨_, rfl⟩
    · exact h.vis a ha b h1
    · exact hs
  · refine hM (fun x => ∀ a ∈ stk, near ord ((n, i + 1) :: C) x a → ∀ b ∈ stk, expl adj ((n, i + 1) :: C) a b → low x ≤ ord b) (fun c hc a ha hn b hb he => ?_)
    rcases hE a b he with h1 | ⟨_, rfl⟩
    · exact h.lowA c hc a ha (hN _ _ hn) b hb h1
    · exact absurd hb hst

/-- The top's low number is lowered. -/
theorem Inv.lower {n s : Int} {i : Nat} (h : Inv adj V ord low stk ((n, i) :: C) comp count next) (hi : i < (adj n).length) (e : (adj n)[i] = s) (hst : s ∈ stk) :
    Inv adj V ord (put low n (min (low n) (ord s))) stk ((n, i + 1) :: C) comp count next := by
  subst e
  have hE : ∀ a b, expl adj ((n, i + 1) :: C) a b → expl adj ((n, i) :: C) a b ∨ a = n ∧ b = (adj n)[i] := fun a b hb => by
    by_cases ha : a = n
    · subst ha
      rcases take_succ_mem hi (hb.2 (a, i + 1) List.mem_cons_self rfl) with h1 | h1
      · refine .inl ⟨hb.1, fun d hd e => ?_⟩
        rcases List.mem_cons.1 hd with rfl | hd
        · exact h1
        · exact hb.2 d (List.mem_cons_of_mem _ hd) e
      · exact .inr ⟨rfl, h1⟩
    · refine .inl ⟨hb.1, fun d hd e => ?_⟩
      rcases List.mem_cons.1 hd with rfl | hd
      · exact absurd e.symm ha
      · exact hb.2 d (List.mem_cons_of_mem _ hd) e
  have hM : ∀ (P : Int → Prop), (∀ c ∈ (n, i) :: C, P c.1) → ∀ c ∈ (n, i + 1) :: C, P c.1 := fun P hP c hc => by
    rcases List.mem_cons.1 hc with rfl | hc
    · exact hP (n, i) List.mem_cons_self
    · exact hP c (List.mem_cons_of_mem _ hc)
  have hM' : ∀ (P : Int → Prop), (∃ c ∈ (n, i) :: C, P c.1) → ∃ c ∈ (n, i + 1) :: C, P c.1 := fun P ⟨c, hc, hP⟩ => by
    rcases List.mem_cons.1 hc with rfl | hc
    · exact ⟨(n, i + 1), List.mem_cons_self, hP⟩
    · exact ⟨c, List.mem_cons_of_mem _ hc, hP⟩
  have hN : ∀ c a, near ord ((n, i + 1) :: C) c a → near ord ((n, i) :: C) c a := fun c a hn => ⟨hn.1, fun d hd => by
    rcases List.mem_cons.1 hd with rfl | hd
    · exact hn.2 (n, i + 1) List.mem_cons_self
    · exact hn.2 d (List.mem_cons_of_mem _ hd)⟩
  have hns : n ∈ stk := h.cs (n, i) List.mem_cons_self
  have hadj : (adj n)[i] ∈ adj n := List.getElem_mem _
  refine ⟨h.ordV, h.nn, h.sv, h.sp, ?_, hM (fun x => x ∈ stk) h.cs, hM (fun x => ∀ y ∈ stk, ord x ≤ ord y → Reach adj x y) h.up, fun y hy => hM' (fun x => ord x ≤ ord y ∧ Reach adj y x) (h.down y hy), h.fin, ?_, hM (fun x => put low n (min (low n) (ord (adj n)[i])) x ≤ ord x ∧ ∃ y ∈ stk, ord y = put low n (min (low n) (ord (adj n)[i])) x ∧ Reach adj x y) (fun c hc => ?_), ?_, h.cl, h.cm⟩
  · obtain ⟨h1, h2⟩ := List.pairwise_cons.1 h.cp
    exact List.pairwise_cons.2 ⟨h1, h2⟩
  · intro a ha b hb
    rcases hE a b hb with h1 | ⟨_, rfl⟩
    · exact h.vis a ha b h1
    · exact h.sv _ hst
  · obtain ⟨h1, y, hy, h2, h3⟩ := h.lowE c hc
    by_cases e : c.1 = n
    · rw [e, put_at]
      rw [e] at h1 h2 h3
      refine ⟨by omega, ?_⟩
      by_cases hle : low n ≤ ord (adj n)[i]
      · exact ⟨y, hy, by omega, h3⟩
      · exact ⟨_, hst, by omega, .one hadj⟩
    · rw [put_ne _ e]
      exact ⟨h1, y, hy, h2, h3⟩
  · refine hM (fun x => ∀ a ∈ stk, near ord ((n, i + 1) :: C) x a → ∀ b ∈ stk, expl adj ((n, i + 1) :: C) a b → put low n (min (low n) (ord (adj n)[i])) x ≤ ord b) (fun c hc a ha hn b hb he => ?_)
    rcases hE a b he with h1 | ⟨rfl, rfl⟩
    · have := h.lowA c hc a ha (hN _ _ hn) b hb h1
      by_cases e : c.1 = n
      · rw [e, put_at]; rw [e] at this; omega
      · rw [put_ne _ e]; exact this
    · have h1 := hn.2 (a, i + 1) List.mem_cons_self (Int.le_refl _)
      have e : c.1 = a := sorted_inj h.sp (h.cs c hc) hns (by have := hn.1; simp only at h1; omega)
      rw [e, put_at]; omega

/-- A node is entered from the top. -/
theorem Inv.new {n s : Int} {i : Nat} (hV : ∀ a ∈ V, ∀ b ∈ adj a, b ∈ V) (h : Inv adj V ord low stk ((n, i) :: C) comp count next) (hi : i < (adj n).length) (e : (adj n)[i] = s) (hs : ord s = 0) :
    Inv adj V (put ord s (next + 1 : Nat)) (put low s (next + 1 : Nat)) (s :: stk) ((s, 0) :: (n, i + 1) :: C) comp count (next + 1) := by
  have hns : n ∈ stk := h.cs (n, i) List.mem_cons_self
  have hadj : s ∈ adj n := e ▸ List.getElem_mem _
  have hne : ∀ x, ord x ≠ 0 → x ≠ s := fun x hx e => hx (e ▸ hs)
  have ho : ∀ x, x ≠ s → put ord s (next + 1 : Nat) x = ord x := fun x hx => put_ne _ hx
  have hos : put ord s (next + 1 : Nat) s = (next + 1 : Nat) := put_at _ _ _
  have hss : s ∉ stk := fun hc => h.sv s hc hs
  have hst : ∀ x ∈ stk, x ≠ s := fun x hx e => hss (e ▸ hx)
  have hC : ∀ (P : Int → Prop), P s → (∀ c ∈ (n, i) :: C, P c.1) → ∀ c ∈ (s, 0) :: (n, i + 1) :: C, P c.1 := fun P h0 hP c hc => by
    rcases List.mem_cons.1 hc with rfl | hc
    · exact h0
    rcases List.mem_cons.1 hc with rfl | hc
    · exact hP (n, i) List.mem_cons_self
    · exact hP c (List.mem_cons_of_mem _ hc)
  have hC' : ∀ (P : Int → Prop), (∃ c ∈ (n, i) :: C, P c.1) → ∃ c ∈ (s, 0) :: (n, i + 1) :: C, P c.1 := fun P ⟨c, hc, hP⟩ => by
    rcases List.mem_cons.1 hc with rfl | hc
    · exact ⟨(n, i + 1), List.mem_cons_of_mem _ List.mem_cons_self, hP⟩
    · exact ⟨c, List.mem_cons_of_mem _ (List.mem_cons_of_mem _ hc), hP⟩
  have hE : ∀ a b, a ≠ s → expl adj ((s, 0) :: (n, i + 1) :: C) a b → expl adj ((n, i) :: C) a b ∨ a = n ∧ b = s := fun a b has hb => by
    by_cases ha : a = n
    · subst ha
      rcases take_succ_mem hi (hb.2 (a, i + 1) (List.mem_cons_of_mem _ List.mem_cons_self) rfl) with h1 | h1
      · refine .inl ⟨hb.1, fun d hd e => ?_⟩
        rcases List.mem_cons.1 hd with rfl | hd
        · exact h1
        · exact hb.2 d (List.mem_cons_of_mem _ (List.mem_cons_of_mem _ hd)) e
      · exact .inr ⟨rfl, h1.trans e⟩
    · refine .inl ⟨hb.1, fun d hd e => ?_⟩
      rcases List.mem_cons.1 hd with rfl | hd
      · exact absurd e.symm ha
      · exact hb.2 d (List.mem_cons_of_mem _ (List.mem_cons_of_mem _ hd)) e
  have hnE : ∀ b, ¬ expl adj ((s, 0) :: (n, i + 1) :: C) s b := fun b hb => by
    have := hb.2 (s, 0) List.mem_cons_self rfl
    simp at this
  have hcs : ∀ c ∈ (n, i) :: C, c.1 ≠ s := fun c hc => hst _ (h.cs c hc)
  have hbd : ∀ x, ord x ≤ next := fun x => (h.nn x).2
  refine ⟨fun x hx => ?_, fun x => ?_, ?_, ?_, ?_, ?_, ?_, ?_, ?_, ?_, ?_, ?_, ?_, ?_⟩
  · by_cases e : x = s
    · subst e; exact hV n (h.ordV n (h.sv n hns)) _ hadj
    · rw [ho x e] at hx; exact h.ordV x hx
  · by_cases e : x = s
    · subst e; rw [hos]; omega
    · rw [ho x e]; have := h.nn x; omega
  · intro x hx
    rcases List.mem_cons.1 hx with rfl | hx
    · rw [hos]; omega
    · rw [ho x (hst x hx)]; exact h.sv x hx
  · refine List.pairwise_cons.2 ⟨fun b hb => ?_, ?_⟩
    · rw [ho b (hst b hb), hos]; have := hbd b; omega
    · exact h.sp.imp_of_mem (fun {a b} ha hb hlt => by rw [ho a (hst a ha), ho b (hst b hb)]; exact hlt)
  · obtain ⟨h1, h2⟩ := List.pairwise_cons.1 h.cp
    refine List.pairwise_cons.2 ⟨fun c hc => ?_, List.pairwise_cons.2 ⟨fun c hc => ?_, ?_⟩⟩
    · show put ord s _ c.1 < put ord s _ s
      have hx : c.1 ≠ s := by
        rcases List.mem_cons.1 hc with rfl | hc
        · exact hcs (n, i) List.mem_cons_self
        · exact hcs c (List.mem_cons_of_mem _ hc)
      rw [ho _ hx, hos]; have := hbd c.1; omega
    · show put ord s _ c.1 < put ord s _ n
      rw [ho _ (hcs c (List.mem_cons_of_mem _ hc)), ho n (hst n hns)]
      exact h1 c hc
    · exact h2.imp_of_mem (fun {a b} ha hb hlt => by rw [ho a.1 (hcs a (List.mem_cons_of_mem _ ha)), ho b.1 (hcs b (List.mem_cons_of_mem _ hb))]; exact hlt)
  · exact hC (fun x => x ∈ s :: stk) List.mem_cons_self (fun c hc => List.mem_cons_of_mem _ (h.cs c hc))
  · refine hC (fun x => ∀ y ∈ s :: stk, put ord s _ x ≤ put ord s _ y → Reach adj x y) (fun y hy hle => ?_) (fun c hc y hy hle => ?_)
    · rcases List.mem_cons.1 hy with rfl | hy
      · exact .refl _
      · rw [hos, ho y (hst y hy)] at hle; have := hbd y; omega
    · rcases List.mem_cons.1 hy with rfl | hy
      · refine (h.up c hc n hns ?_).trans (.one hadj)
        rcases List.mem_cons.1 hc with rfl | hc
        · exact Int.le_refl _
        · have := (List.pairwise_cons.1 h.cp).1 c hc; simp only at this; omega
      · rw [ho _ (hcs c hc), ho y (hst y hy)] at hle
        exact h.up c hc y hy hle
  · intro y hy
    rcases List.mem_cons.1 hy with rfl | hy
    · exact ⟨(y, 0), List.mem_cons_self, Int.le_refl _, .refl _⟩
    · obtain ⟨c, hc, h1, h2⟩ := h.down y hy
      exact hC' (fun x => put ord s (next + 1 : Nat) x ≤ put ord s (next + 1 : Nat) y ∧ Reach adj y x) ⟨c, hc, by rw [ho _ (hcs c hc), ho y (hst y hy)]; exact h1, h2⟩
  · intro x hx hns' y hy
    have hxs : x ≠ s := fun e => hns' (e ▸ List.mem_cons_self)
    rw [ho x hxs] at hx
    obtain ⟨h1, h2⟩ := h.fin x hx (fun hc => hns' (List.mem_cons_of_mem _ hc)) y hy
    have hys := hne y h1
    rw [ho y hys]
    exact ⟨h1, fun hc => (List.mem_cons.1 hc).elim hys h2⟩
  · intro a ha b hb
    rcases List.mem_cons.1 ha with rfl | ha
    · exact absurd hb (hnE b)
    rcases hE a b (hst a ha) hb with h1 | ⟨_, rfl⟩
    · have := h.vis a ha b h1
      rw [ho b (hne b this)]; exact this
    · rw [hos]; omega
  · refine hC (fun x => put low s (next + 1 : Nat) x ≤ put ord s (next + 1 : Nat) x ∧ ∃ y ∈ s :: stk, put ord s (next + 1 : Nat) y = put low s (next + 1 : Nat) x ∧ Reach adj x y) ?_ (fun c hc => ?_)
    · rw [hos, put_at]
      exact ⟨Int.le_refl _, s, List.mem_cons_self, hos, .refl _⟩
    · obtain ⟨h1, y, hy, h2, h3⟩ := h.lowE c hc
      rw [ho _ (hcs c hc), put_ne _ (hcs c hc)]
      exact ⟨h1, y, List.mem_cons_of_mem _ hy, by rw [ho y (hst y hy)]; exact h2, h3⟩
  · refine hC (fun x => ∀ a ∈ s :: stk, near (put ord s (next + 1 : Nat)) ((s, 0) :: (n, i + 1) :: C) x a → ∀ b ∈ s :: stk, expl adj ((s, 0) :: (n, i + 1) :: C) a b → put low s (next + 1 : Nat) x ≤ put ord s (next + 1 : Nat) b) (fun a ha hn b hb he => ?_) (fun c hc a ha hn b hb he => ?_)
    · rcases List.mem_cons.1 ha with rfl | ha
      · exact absurd he (hnE b)
      · have := hn.1
        rw [hos, ho a (hst a ha)] at this
        have := hbd a; omega
    · rcases List.mem_cons.1 ha with rfl | ha
      · exact absurd he (hnE b)
      have has := hst a ha
      have hnr : near ord ((n, i) :: C) c.1 a := by
        have h1 := hn.1
        rw [ho _ (hcs c hc), ho a has] at h1
        refine ⟨h1, fun d hd hle => ?_⟩
        have := hn.2
        rw [ho _ (hcs c hc), ho a has] at this
        rcases List.mem_cons.1 hd with rfl | hd
        · have := this (n, i + 1) (List.mem_cons_of_mem _ List.mem_cons_self)
          rw [ho n (hst n hns)] at this
          exact this hle
        · have := this d (List.mem_cons_of_mem _ (List.mem_cons_of_mem _ hd))
          rw [ho _ (hcs d (List.mem_cons_of_mem _ hd))] at this
          exact this hle
      rw [put_ne _ (hcs c hc)]
      rcases List.mem_cons.1 hb with rfl | hb
      · rw [hos]
        have := (h.lowE c hc).1
        have := hbd c.1; omega
      · rw [ho b (hst b hb)]
        rcases hE a b has he with h1 | ⟨_, h1⟩
        · exact h.lowA c hc a ha hnr b hb h1
        · exact absurd (h1 ▸ hb) hss
  · intro x hx hns'
    have hxs : x ≠ s := fun e => hns' (e ▸ List.mem_cons_self)
    rw [ho x hxs] at hx
    exact h.cl x hx (fun hc => hns' (List.mem_cons_of_mem _ hc))
  · intro x y hx hxn hy hyn
    have hxs : x ≠ s := fun e => hxn (e ▸ List.mem_cons_self)
    have hys : y ≠ s := fun e => hyn (e ▸ List.mem_cons_self)
    rw [ho x hxs] at hx
    rw [ho y hys] at hy
    exact h.cm x y hx (fun hc => hxn (List.mem_cons_of_mem _ hc)) hy (fun hc => hyn (List.mem_cons_of_mem _ hc))

/-- A search begins. -/
theorem Inv.begin {s : Int} (h : Inv adj V ord low [] [] comp count next) (hsV : s ∈ V) (hs : ord s = 0) :
    Inv adj V (put ord s (next + 1 : Nat)) (put low s (next + 1 : Nat)) [s] [(s, 0)] comp count (next + 1) := by
  have hne : ∀ x, ord x ≠ 0 → x ≠ s := fun x hx e => hx (e ▸ hs)
  have ho : ∀ x, x ≠ s → put ord s (next + 1 : Nat) x = ord x := fun x hx => put_ne _ hx
  have hos : put ord s (next + 1 : Nat) s = (next + 1 : Nat) := put_at _ _ _
  have m1 : ∀ x, x ∈ [s] → x = s := fun x hx => by simpa using hx
  have m2 : ∀ c : Int × Nat, c ∈ [(s, 0)] → c = (s, 0) := fun x hx => by simpa using hx
  have hnE : ∀ b, ¬ expl adj [(s, 0)] s b := fun b hb => by
    have := hb.2 (s, 0) List.mem_cons_self rfl
    simp at this
  refine ⟨fun x hx => ?_, fun x => ?_, fun x hx => ?_, List.pairwise_singleton _ _, List.pairwise_singleton _ _, fun c hc => ?_, fun c hc y hy _ => ?_, fun y hy => ?_, fun x hx hn y hy => ?_, fun a ha b hb => ?_, fun c hc => ?_, fun c hc a ha hn b hb he => ?_, fun x hx hn => ?_, fun x y hx hxn hy hyn => ?_⟩
  · by_cases e : x = s
    · subst e; exact hsV
    · rw [ho x e] at hx; exact h.ordV x hx
  · by_cases e : x = s
    · subst e; rw [hos]; omega
    · rw [ho x e]; have := h.nn x; omega
  · obtain rfl := m1 x hx; rw [hos]; omega
  · rw [m2 c hc]; exact List.mem_cons_self
  · rw [m2 c hc, m1 y hy]; exact .refl _
  · obtain rfl := m1 y hy; exact ⟨(y, 0), List.mem_cons_self, Int.le_refl _, .refl _⟩
  · have hxs : x ≠ s := fun e => hn (e ▸ List.mem_cons_self)
    rw [ho x hxs] at hx
    obtain ⟨h1, _⟩ := h.fin x hx (by simp) y hy
    rw [ho y (hne y h1)]
    exact ⟨h1, fun hc => hne y h1 (m1 y hc)⟩
  · obtain rfl := m1 a ha; exact absurd hb (hnE b)
  · rw [m2 c hc, hos, put_at]; exact ⟨Int.le_refl _, s, List.mem_cons_self, hos, .refl _⟩
  · obtain rfl := m1 a ha; exact absurd he (hnE b)
  · have hxs : x ≠ s := fun e => hn (e ▸ List.mem_cons_self)
    rw [ho x hxs] at hx
    exact h.cl x hx (by simp)
  · have hxs : x ≠ s := fun e => hxn (e ▸ List.mem_cons_self)
    have hys : y ≠ s := fun e => hyn (e ▸ List.mem_cons_self)
    rw [ho x hxs] at hx
    rw [ho y hys] at hy
    exact h.cm x y hx (by simp) hy (by simp)

/-- What the parent's low number becomes. -/
def lowP (low : Int → Int) (n : Int) (C : List (Int × Nat)) : Int → Int :=
  match C with
  | [] => low
  | (p, _) :: _ => put low p (min (low p) (low n))
theorem lowP_at (low : Int → Int) (n p : Int) (j : Nat) (C : List (Int × Nat)) : lowP low n ((p, j) :: C) p = min (low p) (low n) := put_at _ _ _
theorem lowP_ne (low : Int → Int) {n p x : Int} (j : Nat) (C : List (Int × Nat)) (h : x ≠ p) : lowP low n ((p, j) :: C) x = low x := put_ne _ h

/-- The visit of a node ends that is not the first of its component. -/
theorem Inv.stay {n : Int} {i : Nat} (h : Inv adj V ord low stk ((n, i) :: C) comp count next) (hi : (adj n).length ≤ i) (hne : low n ≠ ord n) :
    Inv adj V ord (lowP low n C) stk C comp count next := by
  have hns : n ∈ stk := h.cs (n, i) List.mem_cons_self
  obtain ⟨h1, y0, hy0, e0, hr0⟩ := h.lowE (n, i) List.mem_cons_self
  simp only at h1 e0 hr0
  obtain ⟨c0, hc0, hle0, hrc0⟩ := h.down y0 hy0
  have hin : c0 ∈ C := (List.mem_cons.1 hc0).resolve_left (fun e => by subst e; simp only at hle0; omega)
  obtain ⟨hcn, hcp⟩ := List.pairwise_cons.1 h.cp
  simp only at hcn
  rcases C with _ | ⟨⟨p, j⟩, C⟩
  · cases hin
  have hpn : ord p < ord n := hcn (p, j) List.mem_cons_self
  have hps : p ∈ stk := h.cs (p, j) (List.mem_cons_of_mem _ List.mem_cons_self)
  have hE : ∀ a b, expl adj ((p, j) :: C) a b → expl adj ((n, i) :: (p, j) :: C) a b := fun a b hb => ⟨hb.1, fun d hd e => by
    rcases List.mem_cons.1 hd with rfl | hd
    · subst e
      rw [List.take_of_length_le hi]; exact hb.1
    · exact hb.2 d hd e⟩
  have hlp : ∀ x, lowP low n ((p, j) :: C) x ≤ low x := fun x => by
    by_cases e : x = p
    · subst e; rw [lowP_at]; omega
    · rw [lowP_ne _ _ _ e]; exact Int.le_refl _
  refine ⟨h.ordV, h.nn, h.sv, h.sp, hcp, fun c hc => h.cs c (List.mem_cons_of_mem _ hc), fun c hc => h.up c (List.mem_cons_of_mem _ hc), fun y hy => ?_, h.fin, fun a ha b hb => h.vis a ha b (hE a b hb), fun c hc => ?_, fun c hc a ha hn b hb he => ?_, h.cl, h.cm⟩
  · obtain ⟨c, hc, hle, hr⟩ := h.down y hy
    rcases List.mem_cons.1 hc with rfl | hc
    · exact ⟨c0, hin, by simp only at hle; omega, (hr.trans hr0).trans hrc0⟩
    · exact ⟨c, hc, hle, hr⟩
  · obtain ⟨h2, y, hy, e, hr⟩ := h.lowE c (List.mem_cons_of_mem _ hc)
    refine ⟨Int.le_trans (hlp _) h2, ?_⟩
    by_cases ec : c.1 = p
    · rw [ec, lowP_at]
      rw [ec] at e hr
      by_cases hle : low p ≤ low n
      · exact ⟨y, hy, by omega, hr⟩
      · exact ⟨y0, hy0, by omega, (h.up (p, j) (List.mem_cons_of_mem _ List.mem_cons_self) n hns (by simp only; omega)).trans hr0⟩
    · rw [lowP_ne _ _ _ ec]; exact ⟨y, hy, e, hr⟩
  · by_cases hna : ord n ≤ ord a
    · have h3 := h.lowA (n, i) List.mem_cons_self a ha ⟨hna, fun d hd _ => by
        rcases List.mem_cons.1 hd with rfl | hd
        · exact Int.le_refl _
        · have := hcn d hd; simp only; omega⟩ b hb (hE a b he)
      have h4 := hn.2 (p, j) List.mem_cons_self (by simp only; omega)
      simp only at h3 h4
      have ec : c.1 = p := by
        rcases List.mem_cons.1 hc with rfl | hc
        · rfl
        · have := (List.pairwise_cons.1 hcp).1 c hc; simp only at this; omega
      rw [ec, lowP_at]; omega
    · exact Int.le_trans (hlp _) (h.lowA c (List.mem_cons_of_mem _ hc) a ha ⟨hn.1, fun d hd hle => by
        rcases List.mem_cons.1 hd with rfl | hd
        · exact absurd hle hna
        · exact hn.2 d hd hle⟩ b hb (hE a b he))

/-- The visit of a component's first node ends: the component leaves the stack. -/
theorem Inv.pop {n : Int} {i : Nat} {U W : List Int} {comp' : Int → Int} (h : Inv adj V ord low (U ++ n :: W) ((n, i) :: C) comp count next) (hi : (adj n).length ≤ i) (he : low n = ord n)
    (h1 : ∀ x, x ∈ U ∨ x = n → comp' x = count) (h2 : ∀ x, ¬ (x ∈ U ∨ x = n) → comp' x = comp x) :
    Inv adj V ord (lowP low n C) W C comp' (count + 1) next := by
  obtain ⟨hcn, hcp⟩ := List.pairwise_cons.1 h.cp
  simp only at hcn
  have hst : ∀ x, x ∈ U ++ n :: W ↔ (x ∈ U ∨ x = n) ∨ x ∈ W := fun x => by simp [or_assoc]
  have hsp := List.pairwise_append.1 h.sp
  have hUn : ∀ x ∈ U, ord n < ord x := fun x hx => hsp.2.2 x hx n List.mem_cons_self
  have hWn : ∀ x ∈ W, ord x < ord n := fun x hx => (List.pairwise_cons.1 hsp.2.1).1 x hx
  have hge : ∀ x, x ∈ U ∨ x = n → ord n ≤ ord x := fun x hx => by
    rcases hx with hx | rfl
    · have := hUn x hx; omega
    · exact Int.le_refl _
  have hWl : ∀ x ∈ W, ¬ (x ∈ U ∨ x = n) := fun x hx hc => by have := hge x hc; have := hWn x hx; omega
  have hns : n ∈ U ++ n :: W := (hst n).2 (.inl (.inr rfl))
  have hlow : lowP low n C = low := by
    rcases C with _ | ⟨⟨p, j⟩, C⟩
    · rfl
    · have h3 := hcn (p, j) List.mem_cons_self
      have h4 := (h.lowE (p, j) (List.mem_cons_of_mem _ List.mem_cons_self)).1
      simp only at h3 h4
      funext x
      by_cases e : x = p
      · subst e; rw [lowP_at]; omega
      · rw [lowP_ne _ _ _ e]
  rw [hlow]
  have hreach : ∀ x, x ∈ U ∨ x = n → Reach adj n x ∧ Reach adj x n := fun x hx => by
    have hxs := (hst x).2 (.inl hx)
    refine ⟨h.up (n, i) List.mem_cons_self x hxs (hge x hx), ?_⟩
    obtain ⟨c, hc, hle, hr⟩ := h.down x hxs
    rcases List.mem_cons.1 hc with rfl | hc
    · exact hr
    · exact hr.trans (h.up c (List.mem_cons_of_mem _ hc) n hns (by have := hcn c hc; omega))
  have hclosed : ∀ x, x ∈ U ∨ x = n → ∀ y ∈ adj x, ord y ≠ 0 ∧ y ∉ W := fun x hx y hy => by
    have hex : expl adj ((n, i) :: C) x y := ⟨hy, fun d hd e => by
      rcases List.mem_cons.1 hd with rfl | hd
      · subst e; rw [List.take_of_length_le hi]; exact hy
      · have := hcn d hd; have := hge x hx; rw [← e] at this; omega⟩
    have hxs := (hst x).2 (.inl hx)
    refine ⟨h.vis x hxs y hex, fun hyW => ?_⟩
    have h3 := h.lowA (n, i) List.mem_cons_self x hxs ⟨hge x hx, fun d hd _ => by
        rcases List.mem_cons.1 hd with rfl | hd
        · exact Int.le_refl _
        · have := hcn d hd; simp only; omega⟩ y ((hst y).2 (.inr hyW)) hex
    have := hWn y hyW
    simp only at h3; omega
  have hold : ∀ x, x ∉ W → ¬ (x ∈ U ∨ x = n) → x ∉ U ++ n :: W := fun x hx hn hc => ((hst x).1 hc).elim hn hx
  have hfin : ∀ x, ord x ≠ 0 → x ∉ U ++ n :: W → ∀ z, Reach adj x z → ord z ≠ 0 ∧ z ∉ U ++ n :: W := fun x hx hn z hr => by
    induction hr with
    | refl => exact ⟨hx, hn⟩
    | tail _ e ih => exact h.fin _ ih.1 ih.2 _ e
  refine ⟨h.ordV, h.nn, fun x hx => h.sv x ((hst x).2 (.inr hx)), (List.pairwise_cons.1 hsp.2.1).2, hcp, fun c hc => ?_, fun c hc y hy => h.up c (List.mem_cons_of_mem _ hc) y ((hst y).2 (.inr hy)), fun y hy => ?_, fun x hx hn y hy => ?_, fun a ha b hb => ?_, fun c hc => ?_, fun c hc a ha hn b hb hex => ?_, fun x hx hn => ?_, fun x y hx hxn hy hyn => ?_⟩
  · refine ((hst c.1).1 (h.cs c (List.mem_cons_of_mem _ hc))).resolve_left (fun hh => ?_)
    have := hge _ hh; have := hcn c hc; omega
  · obtain ⟨c, hc, hle, hr⟩ := h.down y ((hst y).2 (.inr hy))
    rcases List.mem_cons.1 hc with rfl | hc
    · have := hWn y hy; simp only at hle; omega
    · exact ⟨c, hc, hle, hr⟩
  · by_cases hxU : x ∈ U ∨ x = n
    · exact hclosed x hxU y hy
    · obtain ⟨h3, h4⟩ := h.fin x hx (hold x hn hxU) y hy
      exact ⟨h3, fun hc => h4 ((hst y).2 (.inr hc))⟩
  · refine h.vis a ((hst a).2 (.inr ha)) b ⟨hb.1, fun d hd e => ?_⟩
    rcases List.mem_cons.1 hd with rfl | hd
    · exact absurd (.inr e.symm) (hWl a ha)
    · exact hb.2 d hd e
  · obtain ⟨h3, y, hy, e, hr⟩ := h.lowE c (List.mem_cons_of_mem _ hc)
    refine ⟨h3, y, ((hst y).1 hy).resolve_left (fun hh => ?_), e, hr⟩
    have := hge _ hh; have := hcn c hc; omega
  · refine h.lowA c (List.mem_cons_of_mem _ hc) a ((hst a).2 (.inr ha)) ⟨hn.1, fun d hd hle => ?_⟩ b ((hst b).2 (.inr hb)) ⟨hex.1, fun d hd e => ?_⟩
    · rcases List.mem_cons.1 hd with rfl | hd
      · have := hWn a ha; simp only at hle; omega
      · exact hn.2 d hd hle
    · rcases List.mem_cons.1 hd with rfl | hd
      · exact absurd (.inr e.symm) (hWl a ha)
      · exact hex.2 d hd e
  · by_cases hxU : x ∈ U ∨ x = n
    · rw [h1 x hxU]; omega
    · rw [h2 x hxU]; have := h.cl x hx (hold x hn hxU); omega
  · by_cases hxU : x ∈ U ∨ x = n <;> by_cases hyU : y ∈ U ∨ y = n
    · rw [h1 x hxU, h1 y hyU]
      exact ⟨fun _ => ⟨(hreach x hxU).2.trans (hreach y hyU).1, (hreach y hyU).2.trans (hreach x hxU).1⟩, fun _ => rfl⟩
    · rw [h1 x hxU, h2 y hyU]
      have h3 := h.cl y hy (hold y hyn hyU)
      exact ⟨fun e => by omega, fun hr => absurd ((hst x).2 (.inl hxU)) (hfin y hy (hold y hyn hyU) x hr.2).2⟩
    · rw [h2 x hxU, h1 y hyU]
      have h3 := h.cl x hx (hold x hxn hxU)
      exact ⟨fun e => by omega, fun hr => absurd ((hst y).2 (.inl hyU)) (hfin x hx (hold x hxn hxU) y hr.1).2⟩
    · rw [h2 x hxU, h2 y hyU]
      exact h.cm x y hx (hold x hxn hxU) hy (hold y hyn hyU)

/-- Without an open node the stack is empty. -/
theorem Inv.empty (h : Inv adj V ord low stk [] comp count next) : stk = [] := by
  cases stk with
  | nil => rfl
  | cons a l => obtain ⟨c, hc, _⟩ := h.down a List.mem_cons_self; cases hc
/-- At the outset nothing is visited. -/
theorem Inv.start (adj : Int → List Int) (V : List Int) (low comp : Int → Int) : Inv adj V (fun _ => 0) low [] [] comp 0 0 :=
  ⟨fun _ h => absurd rfl h, fun _ => ⟨Int.le_refl _, Int.le_refl _⟩, fun _ h => (nomatch h), List.Pairwise.nil, List.Pairwise.nil, fun _ h => (nomatch h), fun _ h => (nomatch h), fun _ h => (nomatch h), fun _ h => absurd rfl h, fun _ h => (nomatch h), fun _ h => (nomatch h), fun _ h => (nomatch h), fun _ h => absurd rfl h, fun _ _ h => absurd rfl h⟩
theorem nodup_len : ∀ (l m : List Int), l.Nodup → (∀ x ∈ l, x ∈ m) → l.length ≤ m.length
  | [], _, _, _ => Nat.zero_le _
  | a :: l, m, h, hm => by
    obtain ⟨h1, h2⟩ := List.nodup_cons.1 h
    have ha := hm a List.mem_cons_self
    have ih := nodup_len l (m.erase a) h2 (fun x hx => (List.mem_erase_of_ne (fun (e : x = a) => h1 (by rw [← e]; exact hx))).2 (hm x (List.mem_cons_of_mem _ hx)))
    rw [List.length_erase_of_mem ha] at ih
    have := List.length_pos_of_mem ha
    simp only [List.length_cons]; omega
/-- No more nodes are open than lie on the stack. -/
theorem calls_len (h : Inv adj V ord low stk C comp count next) : C.length ≤ stk.length := by
  have h1 : (C.map (·.1)).Nodup := by
    have := h.cp
    unfold List.Nodup
    rw [List.pairwise_map]
    exact this.imp (fun {a b} hlt e => by rw [e] at hlt; omega)
  have := nodup_len (C.map (·.1)) stk h1 (fun x hx => by
    obtain ⟨c, hc, rfl⟩ := List.mem_map.1 hx
    exact h.cs c hc)
  simpa using this
end
end Go.Proofs.Ytmlikgmcekofbaa.Grf.Tj
end

section
/- The printed function slices_Equal_int_int. -/
namespace Go.Proofs.Ytmlikgmcekofbaa.PDigraphTells
open Go.RowKit Go.Proofs.YtmlikgmcekofbaaW.PrintWords Go.Proofs.YtmlikgmcekofbaaW.PrintLast Go.Proofs.YtmlikgmcekofbaaW.PrintMore
attribute [local go_sem] max2_int min2_int max_two min_two max_three min_three max_four min_four   -- for this text's walks alone
set_option linter.unusedVariables false
set_option linter.unusedSimpArgs false

/-! ### slices_Equal_int_int: function 11 -/
def slices_Equal_int_int.l0 : Nat → List Int → List Int → Int → Int → Option (Bool)
  | 0, _, _, _, _ => none
  | k + 1, x0, x1, x12, x13 => if x13 < x12 then (if 0 ≤ x13 then (if x13 < (x0.length : Int) then (if x13 < (x1.length : Int) then (if (rd x0 x13) = (rd x1 x13) then (slices_Equal_int_int.l0 k x0 x1 x12 (wrap64 (x13 + 1))) else (some false)) else (none)) else (none)) else (none)) else (some true)
def slices_Equal_int_int.f (k : Nat) (l0 : List Int) (l1 : List Int) : Option (Bool) := if (l0.length : Int) = (l1.length : Int) then (slices_Equal_int_int.l0 k l0 l1 (l0.length : Int) 0) else (some false)
set_option maxHeartbeats 8000000 in
set_option maxRecDepth 100000 in
theorem slices_Equal_int_int.calls (k : Nat) (A0 : Option Addr) (c0 : Nat) (l0 : List Int) (A1 : Option Addr) (c1 : Nat) (l1 : List Int) (r : Bool) (w : World) (hr0 : Kd.C (Kd.int .i64) w A0 l0.length l0) (hc0 : l0.length ≤ c0) (hr1 : Kd.C (Kd.int .i64) w A1 l1.length l1) (hc1 : l1.length ≤ c1) (h : slices_Equal_int_int.f k l0 l1 = some r) :
    Calls Try.prog 11 #[.slice A0 l0.length c0, .slice A1 l1.length c1] w fun e w' => e = .returned (.bool r) ∧ Drawn0 w w' := by
  have HR0 := Aside0.mk hr0
  have HC0 := Aside0.mk hc0
  clear hr0 hc0
  have HR1 := Aside0.mk hr1
  have HC1 := Aside0.mk hc1
  clear hr1 hc1
  have H : (if (l0.length : Int) = (l1.length : Int) then (slices_Equal_int_int.l0 k l0 l1 (l0.length : Int) 0) else (some false)) = some r := h
  clear h
  by_cases c3 : (l0.length : Int) = (l1.length : Int)
  · rw [if_pos c3] at H
    have c3b0 : ((l0.length : Int) == (l1.length : Int)) = true := beq_iff_eq.mpr c3
    have c3b1 : ((l0.length : Int) != (l1.length : Int)) = false := bne_eq_false_iff_eq.mpr c3
    have c3b2 : (l0.length == l1.length) = true := by first | simpa using c3 | (simp at c3 ⊢; omega)
    clear c3
    have H' := Aside0.mk H
    clear H
    go_enter Try.func11, Try.ntmps11
    go_wp2
    repeat (go_quiet (fail); try go_wp2)
    go_loopg [13] k (fun kq v13 w' => ∃ (x13_1 : Int), v13 = .int .i64 x13_1 ∧ Aside0 (slices_Equal_int_int.l0 kq l0 l1 (l0.length : Int) x13_1 = some r) ∧ Aside0 (kq ≤ k) ∧ Drawn0 w w')
    case atStart => exact ⟨(0), (by first | rfl | (simp; done) | (simp [*]; done)), H', ⟨Nat.le_refl _⟩, by repeat (first | exact Drawn0.refl _ | apply Drawn0.step)⟩
    case round =>
      clear H'
      try clear c1
      try clear p2
      try clear c3
      try clear c3b0
      try clear c3b1
      try clear c3b2
      obtain ⟨x13_1, rfl, HA, HK1, ⟨m1, rfl⟩⟩ := hrel
      cases gk with
      | zero => exact absurd HA.out (by simp [slices_Equal_int_int.l0])
      | succ k1 =>
        have H := HA.out
        clear HA
        simp only [slices_Equal_int_int.l0] at H
        by_cases c4 : x13_1 < (l0.length : Int)
        · rw [if_pos c4] at H
          have c4b0 : decide (x13_1 < (l0.length : Int)) = true := decide_eq_true c4
          clear c4
          by_cases c5 : 0 ≤ x13_1
          · rw [if_pos c5] at H
            have c5b0 : decide (0 ≤ x13_1) = true := decide_eq_true c5
            clear c5
            by_cases c6 : x13_1 < (l0.length : Int)
            · rw [if_pos c6] at H
              have c6b0 : decide (x13_1 < (l0.length : Int)) = true := decide_eq_true c6
              clear c6
              by_cases c7 : x13_1 < (l1.length : Int)
              · rw [if_pos c7] at H
                have c7b0 : decide (x13_1 < (l1.length : Int)) = true := decide_eq_true c7
                clear c7
                by_cases c8 : (rd l0 x13_1) = (rd l1 x13_1)
                · rw [if_pos c8] at H
                  have c8b0 : ((rd l0 x13_1) == (rd l1 x13_1)) = true := beq_iff_eq.mpr c8
                  have c8b1 : ((rd l0 x13_1) != (rd l1 x13_1)) = false := bne_eq_false_iff_eq.mpr c8
                  clear c8
                  have H' := Aside0.mk H
                  clear H
                  have p211 : 0 ≤ (x13_1 : Int) := of_decide_eq_true (by first | (with_reducible assumption) | assumption)
                  have q211 : x13_1 < (l0.length : Int) := of_decide_eq_true (by first | (with_reducible assumption) | assumption)
                  obtain ⟨ad211, e211, hx211_0⟩ := Kd.at_int HR0.out x13_1 p211 q211
                  cases e211
                  replace p211 := eq_true p211
                  replace q211 := eq_true q211
                  have p212 : 0 ≤ (x13_1 : Int) := of_decide_eq_true (by first | (with_reducible assumption) | assumption)
                  have q212 : x13_1 < (l1.length : Int) := of_decide_eq_true (by first | (with_reducible assumption) | assumption)
                  obtain ⟨ad212, e212, hx212_0⟩ := Kd.at_int HR1.out x13_1 p212 q212
                  cases e212
                  replace p212 := eq_true p212
                  replace q212 := eq_true q212
                  go_wp2
                  repeat (go_quiet (fail); try go_wp2)
                  go_roundg k1
                  case measure => have := HK1.out; omega
                  case rel => exact ⟨(wrap64 (x13_1 + 1)), (by first | rfl | (simp; done) | (simp [*]; done)), H', ⟨by have := HK1.out; omega⟩, by repeat (first | exact Drawn0.refl _ | apply Drawn0.step)⟩
                · rw [if_neg c8] at H
                  have c8b0 : ((rd l0 x13_1) == (rd l1 x13_1)) = false := beq_eq_false_iff_ne.mpr c8
                  have c8b1 : ((rd l0 x13_1) != (rd l1 x13_1)) = true := bne_iff_ne.mpr c8
                  obtain rfl := Option.some.inj H
                  have p211 : 0 ≤ (x13_1 : Int) := of_decide_eq_true (by first | (with_reducible assumption) | assumption)
                  have q211 : x13_1 < (l0.length : Int) := of_decide_eq_true (by first | (with_reducible assumption) | assumption)
                  obtain ⟨ad211, e211, hx211_0⟩ := Kd.at_int HR0.out x13_1 p211 q211
                  cases e211
                  replace p211 := eq_true p211
                  replace q211 := eq_true q211
                  have p212 : 0 ≤ (x13_1 : Int) := of_decide_eq_true (by first | (with_reducible assumption) | assumption)
                  have q212 : x13_1 < (l1.length : Int) := of_decide_eq_true (by first | (with_reducible assumption) | assumption)
                  obtain ⟨ad212, e212, hx212_0⟩ := Kd.at_int HR1.out x13_1 p212 q212
                  cases e212
                  replace p212 := eq_true p212
                  replace q212 := eq_true q212
                  go_wp2
                  repeat (go_quiet (fail); try go_wp2)
                  go_ret
                  exact ⟨by first | rfl | (simp; done) | (simp [*]; done), by repeat (first | exact Drawn0.refl _ | apply Drawn0.step)⟩
              · rw [if_neg c7] at H
                exact absurd H (by simp)
            · rw [if_neg c6] at H
              exact absurd H (by simp)
          · rw [if_neg c5] at H
            exact absurd H (by simp)
        · rw [if_neg c4] at H
          have c4b0 : decide (x13_1 < (l0.length : Int)) = false := decide_eq_false c4
          clear c4
          obtain rfl := Option.some.inj H
          go_wp2
          repeat (go_quiet (fail); try go_wp2)
          go_ret
          exact ⟨by first | rfl | (simp; done) | (simp [*]; done), by repeat (first | exact Drawn0.refl _ | apply Drawn0.step)⟩
  · rw [if_neg c3] at H
    have c3b0 : ((l0.length : Int) == (l1.length : Int)) = false := beq_eq_false_iff_ne.mpr c3
    have c3b1 : ((l0.length : Int) != (l1.length : Int)) = true := bne_iff_ne.mpr c3
    have c3b2 : (l0.length == l1.length) = false := by first | simpa using c3 | (simp at c3 ⊢; omega)
    obtain rfl := Option.some.inj H
    go_enter Try.func11, Try.ntmps11
    go_wp2
    repeat (go_quiet (fail); try go_wp2)
    go_ret
    exact ⟨by first | rfl | (simp; done) | (simp [*]; done), by repeat (first | exact Drawn0.refl _ | apply Drawn0.step)⟩

-- NOT PRINTED: function 12 (scc_Index)
end Go.Proofs.Ytmlikgmcekofbaa.PDigraphTells
end

section
/- The printed function slices_Equal_bool_bool. -/
namespace Go.Proofs.Ytmlikgmcekofbaa.PDigraphTells
open Go.RowKit Go.Proofs.YtmlikgmcekofbaaW.PrintWords Go.Proofs.YtmlikgmcekofbaaW.PrintLast Go.Proofs.YtmlikgmcekofbaaW.PrintMore
attribute [local go_sem] max2_int min2_int max_two min_two max_three min_three max_four min_four   -- for this text's walks alone
set_option linter.unusedVariables false
set_option linter.unusedSimpArgs false

/-! ### slices_Equal_bool_bool: function 14 -/
def slices_Equal_bool_bool.l0 : Nat → List Bool → List Bool → Int → Int → Option (Bool)
  | 0, _, _, _, _ => none
  | k + 1, x0, x1, x12, x13 => if x13 < x12 then (if 0 ≤ x13 then (if x13 < (x0.length : Int) then (if x13 < (x1.length : Int) then (if ((rdOf false x0 x13) != (rdOf false x1 x13)) = true then (some false) else (slices_Equal_bool_bool.l0 k x0 x1 x12 (wrap64 (x13 + 1)))) else (none)) else (none)) else (none)) else (some true)
def slices_Equal_bool_bool.f (k : Nat) (l0 : List Bool) (l1 : List Bool) : Option (Bool) := if (l0.length : Int) = (l1.length : Int) then (slices_Equal_bool_bool.l0 k l0 l1 (l0.length : Int) 0) else (some false)
set_option maxHeartbeats 8000000 in
set_option maxRecDepth 100000 in
theorem slices_Equal_bool_bool.calls (k : Nat) (A0 : Option Addr) (c0 : Nat) (l0 : List Bool) (A1 : Option Addr) (c1 : Nat) (l1 : List Bool) (r : Bool) (w : World) (hr0 : Kd.C Kd.bool w A0 l0.length l0) (hc0 : l0.length ≤ c0) (hr1 : Kd.C Kd.bool w A1 l1.length l1) (hc1 : l1.length ≤ c1) (h : slices_Equal_bool_bool.f k l0 l1 = some r) :
    Calls Try.prog 14 #[.slice A0 l0.length c0, .slice A1 l1.length c1] w fun e w' => e = .returned (.bool r) ∧ Drawn0 w w' := by
  have HR0 := Aside0.mk hr0
  have HC0 := Aside0.mk hc0
  clear hr0 hc0
  have HR1 := Aside0.mk hr1
  have HC1 := Aside0.mk hc1
  clear hr1 hc1
  have H : (if (l0.length : Int) = (l1.length : Int) then (slices_Equal_bool_bool.l0 k l0 l1 (l0.length : Int) 0) else (some false)) = some r := h
  clear h
  by_cases c3 : (l0.length : Int) = (l1.length : Int)
  · rw [if_pos c3] at H
    have c3b0 : ((l0.length : Int) == (l1.length : Int)) = true := beq_iff_eq.mpr c3
    have c3b1 : ((l0.length : Int) != (l1.length : Int)) = false := bne_eq_false_iff_eq.mpr c3
    have c3b2 : (l0.length == l1.length) = true := by first | simpa using c3 | (simp at c3 ⊢; omega)
    clear c3
    have H' := Aside0.mk H
    clear H
    go_enter Try.func14, Try.ntmps14
    go_wp2
    repeat (go_quiet (fail); try go_wp2)
    go_loopg [13] k (fun kq v13 w' => ∃ (x13_1 : Int), v13 = .int .i64 x13_1 ∧ Aside0 (slices_Equal_bool_bool.l0 kq l0 l1 (l0.length : Int) x13_1 = some r) ∧ Aside0 (kq ≤ k) ∧ Drawn0 w w')
    case atStart => exact ⟨(0), (by first | rfl | (simp; done) | (simp [*]; done)), H', ⟨Nat.le_refl _⟩, by repeat (first | exact Drawn0.refl _ | apply Drawn0.step)⟩
    case round =>
      clear H'
      try clear c1
      try clear p2
      try clear c3
      try clear c3b0
      try clear c3b1
      try clear c3b2
      obtain ⟨x13_1, rfl, HA, HK1, ⟨m1, rfl⟩⟩ := hrel
      cases gk with
      | zero => exact absurd HA.out (by simp [slices_Equal_bool_bool.l0])
      | succ k1 =>
        have H := HA.out
        clear HA
        simp only [slices_Equal_bool_bool.l0] at H
        by_cases c4 : x13_1 < (l0.length : Int)
        · rw [if_pos c4] at H
          have c4b0 : decide (x13_1 < (l0.length : Int)) = true := decide_eq_true c4
          clear c4
          by_cases c5 : 0 ≤ x13_1
          · rw [if_pos c5] at H
            have c5b0 : decide (0 ≤ x13_1) = true := decide_eq_true c5
            clear c5
            by_cases c6 : x13_1 < (l0.length : Int)
            · rw [if_pos c6] at H
              have c6b0 : decide (x13_1 < (l0.length : Int)) = true := decide_eq_true c6
              clear c6
              by_cases c7 : x13_1 < (l1.length : Int)
              · rw [if_pos c7] at H
                have c7b0 : decide (x13_1 < (l1.length : Int)) = true := decide_eq_true c7
                clear c7
                by_cases c8 : ((rdOf false l0 x13_1) != (rdOf false l1 x13_1)) = true
                · rw [if_pos c8] at H
                  have c8b0 : ((rdOf false l0 x13_1) != (rdOf false l1 x13_1)) = true := c8
                  (try (have c8b1 : decide ((rdOf false l0 x13_1) = (rdOf false l1 x13_1)) = false := by simpa using c8))
                  (try (have c8b2 : ((rdOf false l0 x13_1) == (rdOf false l1 x13_1)) = false := by simpa using c8))
                  (try (have c8b3 : ¬ ((rdOf false l0 x13_1) = (rdOf false l1 x13_1)) := by simpa using c8))
                  clear c8
                  obtain rfl := Option.some.inj H
                  have p214 : 0 ≤ (x13_1 : Int) := of_decide_eq_true (by first | (with_reducible assumption) | assumption)
                  have q214 : x13_1 < (l0.length : Int) := of_decide_eq_true (by first | (with_reducible assumption) | assumption)
                  obtain ⟨ad214, e214, hx214_0⟩ := Kd.at_bool HR0.out x13_1 p214 q214
                  cases e214
                  replace p214 := eq_true p214
                  replace q214 := eq_true q214
                  have p215 : 0 ≤ (x13_1 : Int) := of_decide_eq_true (by first | (with_reducible assumption) | assumption)
                  have q215 : x13_1 < (l1.length : Int) := of_decide_eq_true (by first | (with_reducible assumption) | assumption)
                  obtain ⟨ad215, e215, hx215_0⟩ := Kd.at_bool HR1.out x13_1 p215 q215
                  cases e215
                  replace p215 := eq_true p215
                  replace q215 := eq_true q215
                  go_wp2
                  repeat (go_quiet (fail); try go_wp2)
                  go_ret
                  exact ⟨by first | rfl | (simp; done) | (simp [*]; done), by repeat (first | exact Drawn0.refl _ | apply Drawn0.step)⟩
                · rw [if_neg c8] at H
                  have c8b0 : ((rdOf false l0 x13_1) != (rdOf false l1 x13_1)) = false := by simpa using c8
                  (try (have c8b1 : decide ((rdOf false l0 x13_1) = (rdOf false l1 x13_1)) = true := by simpa using c8))
                  (try (have c8b2 : ((rdOf false l0 x13_1) == (rdOf false l1 x13_1)) = true := by simpa using c8))
                  clear c8
                  have H' := Aside0.mk H
                  clear H
                  have p214 : 0 ≤ (x13_1 : Int) := of_decide_eq_true (by first | (with_reducible assumption) | assumption)
                  have q214 : x13_1 < (l0.length : Int) := of_decide_eq_true (by first | (with_reducible assumption) | assumption)
                  obtain ⟨ad214, e214, hx214_0⟩ := Kd.at_bool HR0.out x13_1 p214 q214
                  cases e214
                  replace p214 := eq_true p214
                  replace q214 := eq_true q214
                  have p215 : 0 ≤ (x13_1 : Int) := of_decide_eq_true (by first | (with_reducible assumption) | assumption)
                  have q215 : x13_1 < (l1.length : Int) := of_decide_eq_true (by first | (with_reducible assumption) | assumption)
                  obtain ⟨ad215, e215, hx215_0⟩ := Kd.at_bool HR1.out x13_1 p215 q215
                  cases e215
                  replace p215 := eq_true p215
                  replace q215 := eq_true q215
                  go_wp2
                  repeat (go_quiet (fail); try go_wp2)
                  go_roundg k1
                  case measure => have := HK1.out; omega
                  case rel => exact ⟨(wrap64 (x13_1 + 1)), (by first | rfl | (simp; done) | (simp [*]; done)), H', ⟨by have := HK1.out; omega⟩, by repeat (first | exact Drawn0.refl _ | apply Drawn0.step)⟩
              · rw [if_neg c7] at H
                exact absurd H (by simp)
            · rw [if_neg c6] at H
              exact absurd H (by simp)
          · rw [if_neg c5] at H
            exact absurd H (by simp)
        · rw [if_neg c4] at H
          have c4b0 : decide (x13_1 < (l0.length : Int)) = false := decide_eq_false c4
          clear c4
          obtain rfl := Option.some.inj H
          go_wp2
          repeat (go_quiet (fail); try go_wp2)
          go_ret
          exact ⟨by first | rfl | (simp; done) | (simp [*]; done), by repeat (first | exact Drawn0.refl _ | apply Drawn0.step)⟩
  · rw [if_neg c3] at H
    have c3b0 : ((l0.length : Int) == (l1.length : Int)) = false := beq_eq_false_iff_ne.mpr c3
    have c3b1 : ((l0.length : Int) != (l1.length : Int)) = true := bne_iff_ne.mpr c3
    have c3b2 : (l0.length == l1.length) = false := by first | simpa using c3 | (simp at c3 ⊢; omega)
    obtain rfl := Option.some.inj H
    go_enter Try.func14, Try.ntmps14
    go_wp2
    repeat (go_quiet (fail); try go_wp2)
    go_ret
    exact ⟨by first | rfl | (simp; done) | (simp [*]; done), by repeat (first | exact Drawn0.refl _ | apply Drawn0.step)⟩
end Go.Proofs.Ytmlikgmcekofbaa.PDigraphTells
end

