/- Distances in plain lists: what fixes them, the search by a queue, the rounds of the reference, shortest paths. -/
import Derived.Test.YtjkclhpibielfaaGrf
set_option linter.unusedVariables false
set_option linter.unusedSimpArgs false
namespace Go.Proofs.Ytjkclhpibielfaa.Grf

inductive Walk (adj : Int → List Int) : Nat → Int → Int → Prop
  | zero (a : Int) : Walk adj 0 a a
  | cons {k : Nat} {a b c : Int} (e : b ∈ adj a) (h : Walk adj k b c) : Walk adj (k + 1) a c
theorem Walk.reach {adj : Int → List Int} {k : Nat} {a b : Int} (h : Walk adj k a b) : Reach adj a b := by
  induction h with
  | zero a => exact .refl a
  | cons e _ ih => exact Reach.head e ih
theorem Walk.snoc {adj : Int → List Int} {k : Nat} {a b c : Int} (h : Walk adj k a b) (e : c ∈ adj b) : Walk adj (k + 1) a c := by
  induction h with
  | zero a => exact .cons e (.zero _)
  | cons e1 _ ih => exact .cons e1 (ih e)
theorem Reach.walk {adj : Int → List Int} {a b : Int} (h : Reach adj a b) : ∃ k, Walk adj k a b := by
  induction h with
  | refl => exact ⟨0, .zero _⟩
  | tail _ e ih => obtain ⟨k, h⟩ := ih; exact ⟨k + 1, h.snoc e⟩

/-- f tells the distances to t. -/
structure Far (adj : Int → List Int) (V : List Int) (t : Int) (f : Int → Int) : Prop where
  zero : f t = 0
  none_ : ∀ a ∈ V, f a < 0 → f a = -1
  walk : ∀ a ∈ V, 0 ≤ f a → Walk adj (f a).toNat a t
  edge : ∀ a ∈ V, ∀ b ∈ adj a, 0 ≤ f b → 0 ≤ f a ∧ f a ≤ f b + 1
theorem Far.least {adj : Int → List Int} {V : List Int} {t : Int} {f : Int → Int} (hV : ∀ a ∈ V, ∀ b ∈ adj a, b ∈ V) (h : Far adj V t f) : ∀ {k : Nat} {a : Int}, a ∈ V → Walk adj k a t → 0 ≤ f a ∧ f a ≤ k
  | 0, a, _, hw => by
    cases hw
    rw [h.zero]; omega
  | k + 1, a, ha, hw => by
    cases hw with
    | cons e hw =>
    have h1 := h.least hV (hV a ha _ e) hw
    have h2 := h.edge a ha _ e h1.1
    omega
theorem Far.uniq {adj : Int → List Int} {V : List Int} {t : Int} {f g : Int → Int} (hV : ∀ a ∈ V, ∀ b ∈ adj a, b ∈ V) (hf : Far adj V t f) (hg : Far adj V t g) (a : Int) (ha : a ∈ V) : f a = g a := by
  by_cases h1 : 0 ≤ f a
  · have h2 := hg.least hV ha (hf.walk a ha h1)
    have h3 := hf.least hV ha (hg.walk a ha h2.1)
    omega
  · by_cases h2 : 0 ≤ g a
    · have h3 := hf.least hV ha (hg.walk a ha h2)
      omega
    · rw [hf.none_ a ha (by omega), hg.none_ a ha (by omega)]
theorem Far.reach {adj : Int → List Int} {V : List Int} {t : Int} {f : Int → Int} (hV : ∀ a ∈ V, ∀ b ∈ adj a, b ∈ V) (h : Far adj V t f) {a : Int} (ha : a ∈ V) : 0 ≤ f a ↔ Reach adj a t :=
  ⟨fun h1 => (h.walk a ha h1).reach, fun h1 => by obtain ⟨k, h2⟩ := h1.walk; exact (h.least hV ha h2).1⟩

/-! ### The search by a queue. -/
def put (f : Int → Int) (p v : Int) : Int → Int := fun x => if x = p then v else f x
theorem put_same (f : Int → Int) (p v : Int) : put f p v p = v := by simp [put]
theorem put_other (f : Int → Int) {p x : Int} (v : Int) (h : x ≠ p) : put f p v x = f x := by simp [put, h]
def relax (x : Int) : List Int → (Int → Int) → List Int → (Int → Int) × List Int
  | [], f, q => (f, q)
  | p :: ps, f, q => if f p < 0 then relax x ps (put f p (f x + 1)) (q ++ [p]) else relax x ps f q
def cneg (V : List Int) (f : Int → Int) : Nat := (V.filter fun x => decide (f x < 0)).length
theorem cneg_put {V : List Int} {f : Int → Int} {p v : Int} (hp : p ∈ V) (h : f p < 0) (hv : 0 ≤ v) : cneg V (put f p v) < cneg V f := by
  refine filter_lt _ _ V (fun x _ hx => ?_) ⟨p, hp, ?_, ?_⟩
  · by_cases e : x = p
    · rw [e, put_same] at hx; simp at hx; omega
    · rw [put_other _ _ e] at hx; exact hx
  · rw [put_same]; simp; exact hv
  · simpa using h
/-- What holds while the queue is x :: q and the predecessors ps of x are still to be seen. -/
structure BJ (adj pre : Int → List Int) (V : List Int) (t x : Int) (ps : List Int) (f : Int → Int) (q : List Int) : Prop where
  zero : f t = 0
  none_ : ∀ a, f a < 0 → f a = -1
  walk : ∀ a, 0 ≤ f a → Walk adj (f a).toNat a t
  fx : 0 ≤ f x
  sorted : (x :: q).Pairwise (fun a b => f a ≤ f b)
  nonneg : ∀ a ∈ q, 0 ≤ f a
  high : ∀ a, 0 ≤ f a → f a ≤ f x + 1
  done : ∀ a, 0 ≤ f a → a ∉ x :: q → ∀ p ∈ pre a, 0 ≤ f p ∧ f p ≤ f a + 1
  seen : ∀ p ∈ pre x, p ∉ ps → 0 ≤ f p
  qV : ∀ a ∈ x :: q, a ∈ V
theorem relax_inv {adj pre : Int → List Int} {V : List Int} {t x : Int} (hpre : ∀ a ∈ V, ∀ p, p ∈ pre a ↔ p ∈ V ∧ a ∈ adj p) : ∀ (ps : List Int) (f : Int → Int) (q : List Int), (∀ p ∈ ps, p ∈ pre x) → BJ adj pre V t x ps f q →
    BJ adj pre V t x [] (relax x ps f q).1 (relax x ps f q).2 ∧ 2 * cneg V (relax x ps f q).1 + (relax x ps f q).2.length ≤ 2 * cneg V f + q.length
  | [], f, q, _, h => ⟨h, Nat.le_refl _⟩
  | p :: ps, f, q, hps, h => by
    rw [relax]
    have hx : x ∈ V := h.qV x List.mem_cons_self
    have hpp := hps p List.mem_cons_self
    have hpV := ((hpre x hx p).1 hpp).1
    have hpe := ((hpre x hx p).1 hpp).2
    by_cases hp : f p < 0
    · rw [if_pos hp]
      have hpx : x ≠ p := fun e => by have := h.fx; rw [e] at this; omega
      have hpq : ∀ a, 0 ≤ f a → a ≠ p := fun a ha e => by rw [e] at ha; omega
      have hfx : put f p (f x + 1) x = f x := put_other _ _ hpx
      have h2 : BJ adj pre V t x ps (put f p (f x + 1)) (q ++ [p]) := by
        have hfx0 := h.fx
        refine ⟨?_, fun a ha => ?_, fun a ha => ?_, ?_, ?_, fun a ha => ?_, fun a ha => ?_, fun a ha hn r hr => ?_, fun r hr hn => ?_, fun a ha => ?_⟩
        · rw [put_other _ _ (hpq t (by rw [h.zero]; omega))]; exact h.zero
        · by_cases e : a = p
          · rw [e, put_same] at ha; omega
          · rw [put_other _ _ e] at ha ⊢; exact h.none_ a ha
        · by_cases e : a = p
          · rw [e, put_same]
            rw [show (f x + 1).toNat = (f x).toNat + 1 by omega]
            exact .cons hpe (h.walk x hfx0)
          · rw [put_other _ _ e] at ha ⊢; exact h.walk a ha
        · rw [hfx]; exact hfx0
        · have hs := h.sorted
          rw [show x :: (q ++ [p]) = (x :: q) ++ [p] from rfl, List.pairwise_append]
          have hall : ∀ a ∈ x :: q, 0 ≤ f a := fun a ha => by
            rcases List.mem_cons.1 ha with rfl | ha
            · exact hfx0
            · exact h.nonneg a ha
          refine ⟨?_, by simp, fun a ha b hb => ?_⟩
          · refine List.Pairwise.imp_of_mem (fun {a b} ha hb hab => ?_) hs
            rw [put_other _ _ (hpq a (hall a ha)), put_other _ _ (hpq b (hall b hb))]
            exact hab
          · rw [List.mem_singleton] at hb
            rw [hb, put_same, put_other _ _ (hpq a (hall a ha))]
            exact h.high a (hall a ha)
        · rcases List.mem_append.1 ha with ha | ha
          · rw [put_other _ _ (hpq a (h.nonneg a ha))]; exact h.nonneg a ha
          · rw [List.mem_singleton] at ha; rw [ha, put_same]; omega
        · rw [hfx]
          by_cases e : a = p
          · rw [e, put_same]; omega
          · rw [put_other _ _ e] at ha ⊢; exact h.high a ha
        · have e : a ≠ p := fun e => hn (by rw [e]; simp)
          rw [put_other _ _ e] at ha ⊢
          have h3 := h.done a ha (fun h4 => hn (by rw [show x :: (q ++ [p]) = (x :: q) ++ [p] from rfl]; exact List.mem_append.2 (.inl h4))) r hr
          rw [put_other _ _ (hpq r h3.1)]
          exact h3
        · by_cases e : r = p
          · rw [e, put_same]; omega
          · rw [put_other _ _ e]
            exact h.seen r hr (fun h4 => by rcases List.mem_cons.1 h4 with h5 | h5; exact e h5; exact hn h5)
        · rw [show x :: (q ++ [p]) = (x :: q) ++ [p] from rfl] at ha
          rcases List.mem_append.1 ha with ha | ha
          · exact h.qV a ha
          · rw [List.mem_singleton] at ha; rw [ha]; exact hpV
      obtain ⟨h3, h4⟩ := relax_inv hpre ps _ _ (fun r hr => hps r (List.mem_cons_of_mem _ hr)) h2
      refine ⟨h3, ?_⟩
      have h5 := cneg_put (V := V) (v := f x + 1) hpV hp (by have := h.fx; omega)
      simp only [List.length_append, List.length_cons, List.length_nil] at h4
      omega
    · rw [if_neg hp]
      refine relax_inv hpre ps f q (fun r hr => hps r (List.mem_cons_of_mem _ hr)) ⟨h.zero, h.none_, h.walk, h.fx, h.sorted, h.nonneg, h.high, h.done, fun r hr hn => ?_, h.qV⟩
      by_cases e : r = p
      · rw [e]; omega
      · exact h.seen r hr (fun h4 => by rcases List.mem_cons.1 h4 with h5 | h5; exact e h5; exact hn h5)
/-- What holds ahead of a round of the queue. -/
structure BI (adj pre : Int → List Int) (V : List Int) (t : Int) (f : Int → Int) (q : List Int) : Prop where
  zero : f t = 0
  none_ : ∀ a, f a < 0 → f a = -1
  walk : ∀ a, 0 ≤ f a → Walk adj (f a).toNat a t
  sorted : q.Pairwise (fun a b => f a ≤ f b)
  nonneg : ∀ a ∈ q, 0 ≤ f a
  high : ∀ x q', q = x :: q' → ∀ a, 0 ≤ f a → f a ≤ f x + 1
  done : ∀ a, 0 ≤ f a → a ∉ q → ∀ p ∈ pre a, 0 ≤ f p ∧ f p ≤ f a + 1
  qV : ∀ a ∈ q, a ∈ V
theorem BI.round {adj pre : Int → List Int} {V : List Int} {t x : Int} {f : Int → Int} {q : List Int} (hpre : ∀ a ∈ V, ∀ p, p ∈ pre a ↔ p ∈ V ∧ a ∈ adj p) (h : BI adj pre V t f (x :: q)) :
    BI adj pre V t (relax x (pre x) f q).1 (relax x (pre x) f q).2 ∧ 2 * cneg V (relax x (pre x) f q).1 + (relax x (pre x) f q).2.length ≤ 2 * cneg V f + q.length := by
  have h1 : BJ adj pre V t x (pre x) f q := ⟨h.zero, h.none_, h.walk, h.nonneg x List.mem_cons_self, h.sorted, fun a ha => h.nonneg a (List.mem_cons_of_mem _ ha), h.high x q rfl, h.done, fun p hp hn => absurd hp hn, h.qV⟩
  obtain ⟨h2, h3⟩ := relax_inv hpre (pre x) f q (fun _ h => h) h1
  refine ⟨⟨h2.zero, h2.none_, h2.walk, (List.pairwise_cons.1 h2.sorted).2, h2.nonneg, fun y q' e a ha => ?_, fun a ha hn p hp => ?_, fun a ha => h2.qV a (List.mem_cons_of_mem _ ha)⟩, h3⟩
  · have h4 := h2.high a ha
    have h5 := (List.pairwise_cons.1 h2.sorted).1 y (by rw [e]; exact List.mem_cons_self)
    omega
  · by_cases e : a = x
    · subst e
      have h4 := h2.seen p hp (by simp)
      exact ⟨h4, h2.high p h4⟩
    · exact h2.done a ha (fun h4 => by rcases List.mem_cons.1 h4 with h5 | h5; exact e h5; exact hn h5) p hp
theorem BI.start {adj pre : Int → List Int} {V : List Int} {t : Int} (ht : t ∈ V) : BI adj pre V t (put (fun _ => -1) t 0) [t] := by
  have h0 : ∀ a, 0 ≤ put (fun _ => -1) t 0 a → a = t := fun a ha => Classical.byContradiction fun e => by rw [put_other _ _ e] at ha; omega
  refine ⟨put_same _ _ _, fun a ha => ?_, fun a ha => ?_, by simp, fun a ha => ?_, fun x q' e a ha => ?_, fun a ha hn => ?_, fun a ha => ?_⟩
  · by_cases e : a = t
    · rw [e, put_same] at ha; omega
    · rw [put_other _ _ e]
  · rw [h0 a ha, put_same]; exact .zero t
  · rw [List.mem_singleton] at ha; rw [ha, put_same]; omega
  · injection e with e1 e2
    rw [h0 a ha, ← e1, put_same]; omega
  · exact absurd (by rw [h0 a ha]; simp) hn
  · rw [List.mem_singleton] at ha; rw [ha]; exact ht
theorem BI.far {adj pre : Int → List Int} {V : List Int} {t : Int} {f : Int → Int} (hV : ∀ a ∈ V, ∀ b ∈ adj a, b ∈ V) (hpre : ∀ a ∈ V, ∀ p, p ∈ pre a ↔ p ∈ V ∧ a ∈ adj p) (h : BI adj pre V t f []) : Far adj V t f :=
  ⟨h.zero, fun a _ => h.none_ a, fun a _ => h.walk a, fun a ha b hb hf => h.done b hf (by simp) a ((hpre b (hV a ha b hb) a).2 ⟨ha, hb⟩)⟩

/-! ### Shortest paths. -/
/-- The least successor that is nearer by one. -/
def near (f : Int → Int) (d : Int) : List Int → Int → Int
  | [], nx => nx
  | s :: l, nx => near f d l (if f s = d - 1 ∧ (nx < 0 ∨ s < nx) then s else nx)
theorem near_spec (f : Int → Int) (d : Int) : ∀ (l : List Int) (nx : Int), (∀ s ∈ l, 0 ≤ s) → (nx < 0 ∨ (0 ≤ nx ∧ f nx = d - 1)) →
    (near f d l nx < 0 ∧ nx < 0 ∧ ∀ s ∈ l, f s ≠ d - 1) ∨ (0 ≤ near f d l nx ∧ f (near f d l nx) = d - 1 ∧ (near f d l nx = nx ∨ near f d l nx ∈ l) ∧ (0 ≤ nx → near f d l nx ≤ nx) ∧ ∀ s ∈ l, f s = d - 1 → near f d l nx ≤ s)
  | [], nx, _, h => by
    rw [near]
    rcases h with h | h
    · exact .inl ⟨h, h, by simp⟩
    · exact .inr ⟨h.1, h.2, .inl rfl, fun _ => Int.le_refl _, by simp⟩
  | s :: l, nx, hl, h => by
    rw [near]
    have hs := hl s List.mem_cons_self
    by_cases hc : f s = d - 1 ∧ (nx < 0 ∨ s < nx)
    · rw [if_pos hc]
      rcases near_spec f d l s (fun x hx => hl x (List.mem_cons_of_mem _ hx)) (.inr ⟨hs, hc.1⟩) with h1 | h1
      · omega
      · refine .inr ⟨h1.1, h1.2.1, ?_, fun h0 => ?_, fun x hx hfx => ?_⟩
        · rcases h1.2.2.1 with h2 | h2
          · exact .inr (by rw [h2]; exact List.mem_cons_self)
          · exact .inr (List.mem_cons_of_mem _ h2)
        · have := h1.2.2.2.1 hs; omega
        · rcases List.mem_cons.1 hx with rfl | hx
          · exact h1.2.2.2.1 hs
          · exact h1.2.2.2.2 x hx hfx
    · rw [if_neg hc]
      rcases near_spec f d l nx (fun x hx => hl x (List.mem_cons_of_mem _ hx)) h with h1 | h1
      · refine .inl ⟨h1.1, h1.2.1, fun x hx hfx => ?_⟩
        rcases List.mem_cons.1 hx with rfl | hx
        · exact hc ⟨hfx, .inl h1.2.1⟩
        · exact h1.2.2 x hx hfx
      · refine .inr ⟨h1.1, h1.2.1, ?_, h1.2.2.2.1, fun x hx hfx => ?_⟩
        · rcases h1.2.2.1 with h2 | h2
          · exact .inl h2
          · exact .inr (List.mem_cons_of_mem _ h2)
        · rcases List.mem_cons.1 hx with rfl | hx
          · by_cases hn : 0 ≤ nx
            · have h3 := h1.2.2.2.1 hn
              have : ¬ x < nx := fun h4 => hc ⟨hfx, .inr h4⟩
              omega
            · exact absurd ⟨hfx, .inl (by omega)⟩ hc
          · exact h1.2.2.2.2 x hx hfx
def path (adj : Int → List Int) (f : Int → Int) : Nat → Int → List Int
  | 0, n => [n]
  | k + 1, n => n :: path adj f k (near f (f n) (adj n) (-1))
theorem path_len (adj : Int → List Int) (f : Int → Int) : ∀ k n, (path adj f k n).length = k + 1
  | 0, _ => rfl
  | k + 1, n => by rw [path, List.length_cons, path_len adj f k]
theorem Far.next {adj : Int → List Int} {V : List Int} {t : Int} {f : Int → Int} (hV : ∀ a ∈ V, ∀ b ∈ adj a, b ∈ V) (h0 : ∀ a ∈ V, 0 ≤ a) (h : Far adj V t f) {n : Int} (hn : n ∈ V) (hp : 0 < f n) :
    near f (f n) (adj n) (-1) ∈ adj n ∧ f (near f (f n) (adj n) (-1)) = f n - 1 ∧ ∀ s ∈ adj n, f s = f n - 1 → near f (f n) (adj n) (-1) ≤ s := by
  rcases near_spec f (f n) (adj n) (-1) (fun s hs => h0 s (hV n hn s hs)) (.inl (by omega)) with h1 | h1
  · exfalso
    have hw := h.walk n hn (by omega)
    obtain ⟨k, hk⟩ : ∃ k, (f n).toNat = k + 1 := ⟨(f n).toNat - 1, by omega⟩
    rw [hk] at hw
    cases hw with
    | cons e hw =>
    rename_i b
    have hb := hV n hn b e
    have h2 := h.least hV hb hw
    have h3 := h.edge n hn b e h2.1
    exact h1.2.2 b e (by omega)
  · refine ⟨?_, h1.2.1, h1.2.2.2.2⟩
    rcases h1.2.2.1 with h2 | h2
    · omega
    · exact h2
end Go.Proofs.Ytjkclhpibielfaa.Grf
