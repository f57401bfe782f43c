import Derived.WalkSmall
import Derived.StillTail
import Derived.Deep.Draws
import Derived.StillTailTactics
import Derived.Deep.QuietTactic
import Derived.BigQuiet
import Derived.Deep.RegionLaw
import Derived.Deep.LoopGhost
import Derived.WalkMore
import Derived.Laws.CopyOwn
import Derived.BigRegion
import Derived.Test.YtmlikgmcekofbaaMCyc6
section
/- The printed function burnishlaw07_large. -/
namespace Go.Proofs.Ytmlikgmcekofbaa.PDigraphTells
open Go.RowKit Go.Proofs.YtmlikgmcekofbaaW.PrintWords Go.Proofs.YtmlikgmcekofbaaW.PrintLast Go.Proofs.YtmlikgmcekofbaaW.PrintMore
attribute [local go_sem] max2_int min2_int max_two min_two max_three min_three max_four min_four   -- for this text's walks alone
set_option linter.unusedVariables false
set_option linter.unusedSimpArgs false

/-! ### burnishlaw07_large: function 7 -/
def burnishlaw07_large.l0 : Nat → Int → List (List Int) → Int → Int → List (List Int) → Option (Bool)
  | 0, _, _, _, _, _ => none
  | k + 1, x3, x7, x8, x9, x102000 => if x9 < x8 then (if 0 ≤ x9 then (if x9 < (x7.length : Int) then (if ((rd_L1 x7 x9).length : Int) > 200 then (some true) else (burnishlaw07_large.l0 k (wrap64 (x3 + ((rd_L1 x7 x9).length : Int))) x7 x8 (wrap64 (x9 + 1)) x102000)) else (none)) else (none)) else (if (x102000.length : Int) > 50 then (some true) else (some (decide (x3 > 1000))))
def burnishlaw07_large.f (k : Nat) (l0_0 : List (List Int)) : Option (Bool) := burnishlaw07_large.l0 k 0 l0_0 (l0_0.length : Int) 0 l0_0
set_option maxHeartbeats 8000000 in
set_option maxRecDepth 100000 in
theorem burnishlaw07_large.calls (k : Nat) (A0_0 : Option Addr) (c0_0 : Nat) (l0_0 : List (List Int)) (r : Bool) (w : World) (hr0_0 : Kd.C (Kd.slice 3 (Kd.int .i64)) w A0_0 l0_0.length l0_0) (hc0_0 : l0_0.length ≤ c0_0) (h : burnishlaw07_large.f k l0_0 = some r) :
    Calls Try.prog 7 #[.agg #[.slice A0_0 l0_0.length c0_0]] w fun e w' => e = .returned (.bool r) ∧ Below w.heap.size w w' := by
  have hu24 := Try.underlying24
  have HR0_0 := Aside0.mk hr0_0
  have HC0_0 := Aside0.mk hc0_0
  clear hr0_0 hc0_0
  have HB := Aside0.mk (Below.refl w.heap.size w)
  have H : (burnishlaw07_large.l0 k 0 l0_0 (l0_0.length : Int) 0 l0_0) = some r := h
  clear h
  have H' := Aside0.mk H
  clear H
  go_enter Try.func7, Try.ntmps7
  go_wp2_with (first | ((with_reducible refine gate_dst (N := 1) rfl ?_); refine box_event ?hg (N := 1) ?hd (cs := #[.slice A0_0 l0_0.length c0_0]) (t := 24) ?hr ?_; (case hd => rfl); (case hg => rfl); (case hr => first | (go_simp; done) | (go_simp; rfl)); intro gb101 hg w2 hbox hb; have n0_ := Aside0.mk (below_step (by repeat (first | (with_reducible first | exact HB.out | apply below_alloc | apply pw_below_drewN | apply below_drew1) | exact HB.out)) hb); have n1_ := Aside0.mk (hbox); have n2_ := Aside0.mk ((by rw [hg]; exact (below_size (by repeat (first | (with_reducible first | exact HB.out | apply below_alloc | apply pw_below_drewN | apply below_drew1) | exact HB.out))) : w.heap.size ≤ gb101)); have n3_ := Aside0.mk ((by rw [hg]; exact (below_size (by repeat (first | (with_reducible first | exact HB.out | apply below_alloc | apply pw_below_drewN | apply below_drew1) | exact HB.out))) : w.heap.size ≤ gb101)); clear HB; have HB := n0_; have BK101 := n1_; have GW101 := n2_; have GE101 := n3_; clear n0_ n1_ n2_ n3_; clear hb hbox hg; have hcz3_0 : w2.cell? ⟨gb101, 0, none⟩ = some (.slice A0_0 l0_0.length c0_0) := (blk_cell BK101.out 0).trans rfl; have hfz3_0 := blk_frozen BK101.out 0))
  go_loopg [3, 9] k (fun kq v3 v9 w' => ∃ (x3_1 : Int) (x9_1 : Int), v3 = .int .i64 x3_1 ∧ v9 = .int .i64 x9_1 ∧ Aside0 (burnishlaw07_large.l0 kq x3_1 l0_0 (l0_0.length : Int) x9_1 l0_0 = some r) ∧ Aside0 (kq ≤ k) ∧ Aside0 (w'.heap[gb101]? = some (.cells #[(.slice A0_0 l0_0.length c0_0)] 24 (0, 0))) ∧ Aside0 (Below w.heap.size w w'))
  case atStart => exact ⟨(0), (0), (by first | rfl | (simp; done) | (simp [*]; done)), (by first | rfl | (simp; done) | (simp [*]; done)), H', ⟨Nat.le_refl _⟩, ⟨by (with_reducible repeat (first | refine blk_drewN ?_ _ | refine blk_drew ?_ | refine blk_alloc ?_ _)); exact BK101.out⟩, ⟨by repeat (first | (with_reducible first | exact HB.out | apply below_alloc | apply pw_below_drewN | apply below_drew1 | refine below_set ?_ GE101.out) | exact HB.out)⟩⟩
  case round =>
    clear H'
    try clear p2
    try clear hcz3_0
    try clear hfz3_0
    obtain ⟨x3_1, x9_1, rfl, rfl, HA, HK1, BK101, HB⟩ := hrel
    cases gk with
    | zero => exact absurd HA.out (by simp [burnishlaw07_large.l0])
    | succ k1 =>
      have H := HA.out
      clear HA
      simp only [burnishlaw07_large.l0] at H
      by_cases c4 : x9_1 < (l0_0.length : Int)
      · rw [if_pos c4] at H
        have c4b0 : decide (x9_1 < (l0_0.length : Int)) = true := decide_eq_true c4
        clear c4
        by_cases c5 : 0 ≤ x9_1
        · rw [if_pos c5] at H
          have c5b0 : decide (0 ≤ x9_1) = true := decide_eq_true c5
          clear c5
          by_cases c6 : x9_1 < (l0_0.length : Int)
          · rw [if_pos c6] at H
            have c6b0 : decide (x9_1 < (l0_0.length : Int)) = true := decide_eq_true c6
            clear c6
            by_cases c7 : ((rd_L1 l0_0 x9_1).length : Int) > 200
            · rw [if_pos c7] at H
              have c7b0 : decide (200 < ((rd_L1 l0_0 x9_1).length : Int)) = true := decide_eq_true c7
              have c7b1 : decide (200 < (rd_L1 l0_0 x9_1).length) = true := decide_eq_true (by omega)
              clear c7
              obtain rfl := Option.some.inj H
              have p102 : 0 ≤ (x9_1 : Int) := of_decide_eq_true (by first | (with_reducible assumption) | assumption)
              have q102 : x9_1 < (l0_0.length : Int) := of_decide_eq_true (by first | (with_reducible assumption) | assumption)
              obtain ⟨ad102, A102_0, c102_0, e102, hx102_0, hl102_0, hi102_0⟩ := at_L1 HR0_0.out x9_1 p102 q102
              cases e102
              replace hx102_0 := (HB.out.cell (World.block_lt_of_cell? w _ hx102_0)).trans hx102_0
              have HR102_0 := Aside0.mk hi102_0
              have HC102_0 := Aside0.mk hl102_0
              clear hi102_0 hl102_0
              replace p102 := eq_true p102
              replace q102 := eq_true q102
              go_wp2
              go_ret
              exact ⟨by first | rfl | (simp [errW_none, errW_some] <;> rfl) | (simp [*, errW_none, errW_some] <;> rfl), by repeat (first | (with_reducible first | exact HB.out | apply below_alloc | apply pw_below_drewN | apply below_drew1 | refine below_set ?_ GE101.out) | exact HB.out)⟩
            · rw [if_neg c7] at H
              have c7b0 : decide (200 < ((rd_L1 l0_0 x9_1).length : Int)) = false := decide_eq_false c7
              have c7b1 : decide (200 < (rd_L1 l0_0 x9_1).length) = false := decide_eq_false (by omega)
              clear c7
              have H' := Aside0.mk H
              clear H
              have p102 : 0 ≤ (x9_1 : Int) := of_decide_eq_true (by first | (with_reducible assumption) | assumption)
              have q102 : x9_1 < (l0_0.length : Int) := of_decide_eq_true (by first | (with_reducible assumption) | assumption)
              obtain ⟨ad102, A102_0, c102_0, e102, hx102_0, hl102_0, hi102_0⟩ := at_L1 HR0_0.out x9_1 p102 q102
              cases e102
              replace hx102_0 := (HB.out.cell (World.block_lt_of_cell? w _ hx102_0)).trans hx102_0
              have HR102_0 := Aside0.mk hi102_0
              have HC102_0 := Aside0.mk hl102_0
              clear hi102_0 hl102_0
              replace p102 := eq_true p102
              replace q102 := eq_true q102
              go_wp2
              go_roundg k1
              case measure => have := HK1.out; omega
              case rel => exact ⟨(wrap64 (x3_1 + ((rd_L1 l0_0 x9_1).length : Int))), (wrap64 (x9_1 + 1)), (by first | rfl | (simp; done) | (simp [*]; done)), (by first | rfl | (simp; done) | (simp [*]; done)), H', ⟨by have := HK1.out; omega⟩, ⟨by (with_reducible repeat (first | refine blk_drewN ?_ _ | refine blk_drew ?_ | refine blk_alloc ?_ _)); exact BK101.out⟩, ⟨by repeat (first | (with_reducible first | exact HB.out | apply below_alloc | apply pw_below_drewN | apply below_drew1 | refine below_set ?_ GE101.out) | exact HB.out)⟩⟩
          · rw [if_neg c6] at H
            exact absurd H (by simp)
        · rw [if_neg c5] at H
          exact absurd H (by simp)
      · rw [if_neg c4] at H
        have c4b0 : decide (x9_1 < (l0_0.length : Int)) = false := decide_eq_false c4
        clear c4
        by_cases c8 : (l0_0.length : Int) > 50
        · rw [if_pos c8] at H
          have c8b0 : decide (50 < (l0_0.length : Int)) = true := decide_eq_true c8
          have c8b1 : decide (50 < l0_0.length) = true := decide_eq_true (by omega)
          clear c8
          obtain rfl := Option.some.inj H
          have hcz9_0 : wr.cell? ⟨gb101, 0, none⟩ = some (.slice A0_0 l0_0.length c0_0) := (blk_cell BK101.out 0).trans rfl
          have hfz9_0 := blk_frozen BK101.out 0
          go_wp2
          go_ret
          exact ⟨by first | rfl | (simp [errW_none, errW_some] <;> rfl) | (simp [*, errW_none, errW_some] <;> rfl), by repeat (first | (with_reducible first | exact HB.out | apply below_alloc | apply pw_below_drewN | apply below_drew1 | refine below_set ?_ GE101.out) | exact HB.out)⟩
        · rw [if_neg c8] at H
          have c8b0 : decide (50 < (l0_0.length : Int)) = false := decide_eq_false c8
          have c8b1 : decide (50 < l0_0.length) = false := decide_eq_false (by omega)
          clear c8
          obtain rfl := Option.some.inj H
          have hcz10_0 : wr.cell? ⟨gb101, 0, none⟩ = some (.slice A0_0 l0_0.length c0_0) := (blk_cell BK101.out 0).trans rfl
          have hfz10_0 := blk_frozen BK101.out 0
          go_wp2
          go_ret
          exact ⟨by first | rfl | (simp [errW_none, errW_some] <;> rfl) | (simp [*, errW_none, errW_some] <;> rfl), by repeat (first | (with_reducible first | exact HB.out | apply below_alloc | apply pw_below_drewN | apply below_drew1 | refine below_set ?_ GE101.out) | exact HB.out)⟩
end Go.Proofs.Ytmlikgmcekofbaa.PDigraphTells
end

section
/- Distances in plain lists: what fixes them, the search by a queue, the rounds of the reference, shortest paths. -/
set_option linter.unusedVariables false
set_option linter.unusedSimpArgs false
namespace Go.Proofs.Ytmlikgmcekofbaa.Grf

inductive Walk (adj : Int → List Int) : Nat → Int → Int → Prop
  | zero (a : Int) : Walk adj 0 a a
  | cons {k : Nat} {a b c : Int} (e : b ∈ adj a) (h : Walk adj k b c) : Walk adj (k + 1) a c
theorem Walk.reach {adj : Int → List Int} {k : Nat} {a b : Int} (h : Walk adj k a b) : Reach adj a b := by
  induction h with
  | zero a => exact .refl a
  | cons e _ ih => exact Reach.head e ih
theorem Walk.snoc {adj : Int → List Int} {k : Nat} {a b c : Int} (h : Walk adj k a b) (e : c ∈ adj b) : Walk adj (k + 1) a c := by
  induction h with
  | zero a => exact .cons e (.zero _)
  | cons e1 _ ih => exact .cons e1 (ih e)
theorem Reach.walk {adj : Int → List Int} {a b : Int} (h : Reach adj a b) : ∃ k, Walk adj k a b := by
  induction h with
  | refl => exact ⟨0, .zero _⟩
  | tail _ e ih => obtain ⟨k, h⟩ := ih; exact ⟨k + 1, h.snoc e⟩

/-- f tells the distances to t. -/
structure Far (adj : Int → List Int) (V : List Int) (t : Int) (f : Int → Int) : Prop where
  zero : f t = 0
  none_ : ∀ a ∈ V, f a < 0 → f a = -1
  walk : ∀ a ∈ V, 0 ≤ f a → Walk adj (f a).toNat a t
  edge : ∀ a ∈ V, ∀ b ∈ adj a, 0 ≤ f b → 0 ≤ f a ∧ f a ≤ f b + 1
theorem Far.least {adj : Int → List Int} {V : List Int} {t : Int} {f : Int → Int} (hV : ∀ a ∈ V, ∀ b ∈ adj a, b ∈ V) (h : Far adj V t f) : ∀ {k : Nat} {a : Int}, a ∈ V → Walk adj k a t → 0 ≤ f a ∧ f a ≤ k
  | 0, a, _, hw => by
    cases hw
    rw [h.zero]; omega
  | k + 1, a, ha, hw => by
    cases hw with
    | cons e hw =>
    have h1 := h.least hV (hV a ha _ e) hw
    have h2 := h.edge a ha _ e h1.1
    omega
theorem Far.uniq {adj : Int → List Int} {V : List Int} {t : Int} {f g : Int → Int} (hV : ∀ a ∈ V, ∀ b ∈ adj a, b ∈ V) (hf : Far adj V t f) (hg : Far adj V t g) (a : Int) (ha : a ∈ V) : f a = g a := by
  by_cases h1 : 0 ≤ f a
  · have h2 := hg.least hV ha (hf.walk a ha h1)
    have h3 := hf.least hV ha (hg.walk a ha h2.1)
    omega
  · by_cases h2 : 0 ≤ g a
    · have h3 := hf.least hV ha (hg.walk a ha h2)
      omega
    · rw [hf.none_ a ha (by omega), hg.none_ a ha (by omega)]
theorem Far.reach {adj : Int → List Int} {V : List Int} {t : Int} {f : Int → Int} (hV : ∀ a ∈ V, ∀ b ∈ adj a, b ∈ V) (h : Far adj V t f) {a : Int} (ha : a ∈ V) : 0 ≤ f a ↔ Reach adj a t :=
  ⟨fun h1 => (h.walk a ha h1).reach, fun h1 => by obtain ⟨k, h2⟩ := h1.walk; exact (h.least hV ha h2).1⟩

/-! ### The search by a queue. -/
def put (f : Int → Int) (p v : Int) : Int → Int := fun x => if x = p then v else f x
theorem put_same (f : Int → Int) (p v : Int) : put f p v p = v := by simp [put]
theorem put_other (f : Int → Int) {p x : Int} (v : Int) (h : x ≠ p) : put f p v x = f x := by simp [put, h]
def relax (x : Int) : List Int → (Int → Int) → List Int → (Int → Int) × List Int
  | [], f, q => (f, q)
  | p :: ps, f, q => if f p < 0 then relax x ps (put f p (f x + 1)) (q ++ [p]) else relax x ps f q
def cneg (V : List Int) (f : Int → Int) : Nat := (V.filter fun x => decide (f x < 0)).length
theorem cneg_put {V : List Int} {f : Int → Int} {p v : Int} (hp : p ∈ V) (h : f p < 0) (hv : 0 ≤ v) : cneg V (put f p v) < cneg V f := by
  refine filter_lt _ _ V (fun x _ hx => ?_) ⟨p, hp, ?_, ?_⟩
  · by_cases e : x = p
    · rw [e, put_same] at hx; simp at hx; omega
    · rw [put_other _ _ e] at hx; exact hx
  · rw [put_same]; simp; exact hv
  · simpa using h
/-- What holds while the queue is x :: q and the predecessors ps of x are still to be seen. -/
structure BJ (adj pre : Int → List Int) (V : List Int) (t x : Int) (ps : List Int) (f : Int → Int) (q : List Int) : Prop where
  zero : f t = 0
  none_ : ∀ a, f a < 0 → f a = -1
  walk : ∀ a, 0 ≤ f a → Walk adj (f a).toNat a t
  fx : 0 ≤ f x
  sorted : (x :: q).Pairwise (fun a b => f a ≤ f b)
  nonneg : ∀ a ∈ q, 0 ≤ f a
  high : ∀ a, 0 ≤ f a → f a ≤ f x + 1
  done : ∀ a, 0 ≤ f a → a ∉ x :: q → ∀ p ∈ pre a, 0 ≤ f p ∧ f p ≤ f a + 1
  seen : ∀ p ∈ pre x, p ∉ ps → 0 ≤ f p
  qV : ∀ a ∈ x :: q, a ∈ V
theorem relax_inv {adj pre : Int → List Int} {V : List Int} {t x : Int} (hpre : ∀ a ∈ V, ∀ p, p ∈ pre a ↔ p ∈ V ∧ a ∈ adj p) : ∀ (ps : List Int) (f : Int → Int) (q : List Int), (∀ p ∈ ps, p ∈ pre x) → BJ adj pre V t x ps f q →
    BJ adj pre V t x [] (relax x ps f q).1 (relax x ps f q).2 ∧ 2 * cneg V (relax x ps f q).1 + (relax x ps f q).2.length ≤ 2 * cneg V f + q.length
  | [], f, q, _, h => ⟨h, Nat.le_refl _⟩
  | p :: ps, f, q, hps, h => by
    rw [relax]
    have hx : x ∈ V := h.qV x List.mem_cons_self
    have hpp := hps p List.mem_cons_self
    have hpV := ((hpre x hx p).1 hpp).1
    have hpe := ((hpre x hx p).1 hpp).2
    by_cases hp : f p < 0
    · rw [if_pos hp]
      have hpx : x ≠ p := fun e => by have := h.fx; rw [e] at this; omega
      have hpq : ∀ a, 0 ≤ f a → a ≠ p := fun a ha e => by rw [e] at ha; omega
      have hfx : put f p (f x + 1) x = f x := put_other _ _ hpx
      have h2 : BJ adj pre V t x ps (put f p (f x + 1)) (q ++ [p]) := by
        have hfx0 := h.fx
        refine ⟨?_, fun a ha => ?_, fun a ha => ?_, ?_, ?_, fun a ha => ?_, fun a ha => ?_, fun a ha hn r hr => ?_, fun r hr hn => ?_, fun a ha => ?_⟩
        · rw [put_other _ _ (hpq t (by rw [h.zero]; omega))]; exact h.zero
        · by_cases e : a = p
          · rw [e, put_same] at ha; omega
          · rw [put_other _ _ e] at ha ⊢; exact h.none_ a ha
        · by_cases e : a = p
          · rw [e, put_same]
            rw [show (f x + 1).toNat = (f x).toNat + 1 by omega]
            exact .cons hpe (h.walk x hfx0)
          · rw [put_other _ _ e] at ha ⊢; exact h.walk a ha
        · rw [hfx]; exact hfx0
        · have hs := h.sorted
          rw [show x :: (q ++ [p]) = (x :: q) ++ [p] from rfl, List.pairwise_append]
          have hall : ∀ a ∈ x :: q, 0 ≤ f a := fun a ha => by
            rcases List.mem_cons.1 ha with rfl | ha
            · exact hfx0
            · exact h.nonneg a ha
          refine ⟨?_, by simp, fun a ha b hb => ?_⟩
          · refine List.Pairwise.imp_of_mem (fun {a b} ha hb hab => ?_) hs
            rw [put_other _ _ (hpq a (hall a ha)), put_other _ _ (hpq b (hall b hb))]
            exact hab
          · rw [List.mem_singleton] at hb
            rw [hb, put_same, put_other _ _ (hpq a (hall a ha))]
            exact h.high a (hall a ha)
        · rcases List.mem_append.1 ha with ha | ha
          · rw [put_other _ _ (hpq a (h.nonneg a ha))]; exact h.nonneg a ha
          · rw [List.mem_singleton] at ha; rw [ha, put_same]; omega
        · rw [hfx]
          by_cases e : a = p
          · rw [e, put_same]; omega
          · rw [put_other _ _ e] at ha ⊢; exact h.high a ha
        · have e : a ≠ p := fun e => hn (by rw [e]; simp)
          rw [put_other _ _ e] at ha ⊢
          have h3 := h.done a ha (fun h4 => hn (by rw [show x :: (q ++ [p]) = (x :: q) ++ [p] from rfl]; exact List.mem_append.2 (.inl h4))) r hr
          rw [put_other _ _ (hpq r h3.1)]
          exact h3
        · by_cases e : r = p
          · rw [e, put_same]; omega
          · rw [put_other _ _ e]
            exact h.seen r hr (fun h4 => by rcases List.mem_cons.1 h4 with h5 | h5; exact e h5; exact hn h5)
        · rw [show x :: (q ++ [p]) = (x :: q) ++ [p] from rfl] at ha
          rcases List.mem_append.1 ha with ha | ha
          · exact h.qV a ha
          · rw [List.mem_singleton] at ha; rw [ha]; exact hpV
      obtain ⟨h3, h4⟩ := relax_inv hpre ps _ _ (fun r hr => hps r (List.mem_cons_of_mem _ hr)) h2
      refine ⟨h3, ?_⟩
      have h5 := cneg_put (V := V) (v := f x + 1) hpV hp (by have := h.fx; omega)
      simp only [List.length_append, List.length_cons, List.length_nil] at h4
      omega
    · rw [if_neg hp]
      refine relax_inv hpre ps f q (fun r hr => hps r (List.mem_cons_of_mem _ hr)) ⟨h.zero, h.none_, h.walk, h.fx, h.sorted, h.nonneg, h.high, h.done, fun r hr hn => ?_, h.qV⟩
      by_cases e : r = p
      · rw [e]; omega
      · exact h.seen r hr (fun h4 => by rcases List.mem_cons.1 h4 with h5 | h5; exact e h5; exact hn h5)
/-- What holds ahead of a round of the queue. -/
structure BI (adj pre : Int → List Int) (V : List Int) (t : Int) (f : Int → Int) (q : List Int) : Prop where
  zero : f t = 0
  none_ : ∀ a, f a < 0 → f a = -1
  walk : ∀ a, 0 ≤ f a → Walk adj (f a).toNat a t
  sorted : q.Pairwise (fun a b => f a ≤ f b)
  nonneg : ∀ a ∈ q, 0 ≤ f a
  high : ∀ x q', q = x :: q' → ∀ a, 0 ≤ f a → f a ≤ f x + 1
  done : ∀ a, 0 ≤ f a → a ∉ q → ∀ p ∈ pre a, 0 ≤ f p ∧ f p ≤ f a + 1
  qV : ∀ a ∈ q, a ∈ V
theorem BI.round {adj pre : Int → List Int} {V : List Int} {t x : Int} {f : Int → Int} {q : List Int} (hpre : ∀ a ∈ V, ∀ p, p ∈ pre a ↔ p ∈ V ∧ a ∈ adj p) (h : BI adj pre V t f (x :: q)) :
    BI adj pre V t (relax x (pre x) f q).1 (relax x (pre x) f q).2 ∧ 2 * cneg V (relax x (pre x) f q).1 + (relax x (pre x) f q).2.length ≤ 2 * cneg V f + q.length := by
  have h1 : BJ adj pre V t x (pre x) f q := ⟨h.zero, h.none_, h.walk, h.nonneg x List.mem_cons_self, h.sorted, fun a ha => h.nonneg a (List.mem_cons_of_mem _ ha), h.high x q rfl, h.done, fun p hp hn => absurd hp hn, h.qV⟩
  obtain ⟨h2, h3⟩ := relax_inv hpre (pre x) f q (fun _ h => h) h1
  refine ⟨⟨h2.zero, h2.none_, h2.walk, (List.pairwise_cons.1 h2.sorted).2, h2.nonneg, fun y q' e a ha => ?_, fun a ha hn p hp => ?_, fun a ha => h2.qV a (List.mem_cons_of_mem _ ha)⟩, h3⟩
  · have h4 := h2.high a ha
    have h5 := (List.pairwise_cons.1 h2.sorted).1 y (by rw [e]; exact List.mem_cons_self)
    omega
  · by_cases e : a = x
    · subst e
      have h4 := h2.seen p hp (by simp)
      exact ⟨h4, h2.high p h4⟩
    · exact h2.done a ha (fun h4 => by rcases List.mem_cons.1 h4 with h5 | h5; exact e h5; exact hn h5) p hp
theorem BI.start {adj pre : Int → List Int} {V : List Int} {t : Int} (ht : t ∈ V) : BI adj pre V t (put (fun _ => -1) t 0) [t] := by
  have h0 : ∀ a, 0 ≤ put (fun _ => -1) t 0 a → a = t := fun a ha => Classical.byContradiction fun e => by rw [put_other _ _ e] at ha; omega
  refine ⟨put_same _ _ _, fun a ha => ?_, fun a ha => ?_, by simp, fun a ha => ?_, fun x q' e a ha => ?_, fun a ha hn => ?_, fun a ha => ?_⟩
  · by_cases e : a = t
    · rw [e, put_same] at ha; omega
    · rw [put_other _ _ e]
  · rw [h0 a ha, put_same]; exact .zero t
  · rw [List.mem_singleton] at ha; rw [ha, put_same]; omega
  · injection e with e1 e2
    rw [h0 a ha, ← e1, put_same]; omega
  · exact absurd (by rw [h0 a ha]; simp) hn
  · rw [List.mem_singleton] at ha; rw [ha]; exact ht
theorem BI.far {adj pre : Int → List Int} {V : List Int} {t : Int} {f : Int → Int} (hV : ∀ a ∈ V, ∀ b ∈ adj a, b ∈ V) (hpre : ∀ a ∈ V, ∀ p, p ∈ pre a ↔ p ∈ V ∧ a ∈ adj p) (h : BI adj pre V t f []) : Far adj V t f :=
  ⟨h.zero, fun a _ => h.none_ a, fun a _ => h.walk a, fun a ha b hb hf => h.done b hf (by simp) a ((hpre b (hV a ha b hb) a).2 ⟨ha, hb⟩)⟩

/-! ### Shortest paths. -/
/-- The least successor that is nearer by one. -/
def near (f : Int → Int) (d : Int) : List Int → Int → Int
  | [], nx => nx
  | s :: l, nx => near f d l (if f s = d - 1 ∧ (nx < 0 ∨ s < nx) then s else nx)
theorem near_spec (f : Int → Int) (d : Int) : ∀ (l : List Int) (nx : Int), (∀ s ∈ l, 0 ≤ s) → (nx < 0 ∨ (0 ≤ nx ∧ f nx = d - 1)) →
    (near f d l nx < 0 ∧ nx < 0 ∧ ∀ s ∈ l, f s ≠ d - 1) ∨ (0 ≤ near f d l nx ∧ f (near f d l nx) = d - 1 ∧ (near f d l nx = nx ∨ near f d l nx ∈ l) ∧ (0 ≤ nx → near f d l nx ≤ nx) ∧ ∀ s ∈ l, f s = d - 1 → near f d l nx ≤ s)
  | [], nx, _, h => by
    rw [near]
    rcases h with h | h
    · exact .inl ⟨h, h, by simp⟩
    · exact .inr ⟨h.1, h.2, .inl rfl, fun _ => Int.le_refl _, by simp⟩
  | s :: l, nx, hl, h => by
    rw [near]
    have hs := hl s List.mem_cons_self
    by_cases hc : f s = d - 1 ∧ (nx < 0 ∨ s < nx)
    · rw [if_pos hc]
      rcases near_spec f d l s (fun x hx => hl x (List.mem_cons_of_mem _ hx)) (.inr ⟨hs, hc.1⟩) with h1 | h1
      · omega
      · refine .inr ⟨h1.1, h1.2.1, ?_, fun h0 => ?_, fun x hx hfx => ?_⟩
        · rcases h1.2.2.1 with h2 | h2
          · exact .inr (by rw [h2]; exact List.mem_cons_self)
          · exact .inr (List.mem_cons_of_mem _ h2)
        · have := h1.2.2.2.1 hs; omega
        · rcases List.mem_cons.1 hx with rfl | hx
          · exact h1.2.2.2.1 hs
          · exact h1.2.2.2.2 x hx hfx
    · rw [if_neg hc]
      rcases near_spec f d l nx (fun x hx => hl x (List.mem_cons_of_mem _ hx)) h with h1 | h1
      · refine .inl ⟨h1.1, h1.2.1, fun x hx hfx => ?_⟩
        rcases List.mem_cons.1 hx with rfl | hx
        · exact hc ⟨hfx, .inl h1.2.1⟩
        · exact h1.2.2 x hx hfx
      · refine .inr ⟨h1.1, h1.2.1, ?_, h1.2.2.2.1, fun x hx hfx => ?_⟩
        · rcases h1.2.2.1 with h2 | h2
          · exact .inl h2
          · exact .inr (List.mem_cons_of_mem _ h2)
        · rcases List.mem_cons.1 hx with rfl | hx
          · by_cases hn : 0 ≤ nx
            · have h3 := h1.2.2.2.1 hn
              have : ¬ x < nx := fun h4 => hc ⟨hfx, .inr h4⟩
              omega
            · exact absurd ⟨hfx, .inl (by omega)⟩ hc
          · exact h1.2.2.2.2 x hx hfx
def path (adj : Int → List Int) (f : Int → Int) : Nat → Int → List Int
  | 0, n => [n]
  | k + 1, n => n :: path adj f k (near f (f n) (adj n) (-1))
theorem Far.next {adj : Int → List Int} {V : List Int} {t : Int} {f : Int → Int} (hV : ∀ a ∈ V, ∀ b ∈ adj a, b ∈ V) (h0 : ∀ a ∈ V, 0 ≤ a) (h : Far adj V t f) {n : Int} (hn : n ∈ V) (hp : 0 < f n) :
    near f (f n) (adj n) (-1) ∈ adj n ∧ f (near f (f n) (adj n) (-1)) = f n - 1 ∧ ∀ s ∈ adj n, f s = f n - 1 → near f (f n) (adj n) (-1) ≤ s := by
  rcases near_spec f (f n) (adj n) (-1) (fun s hs => h0 s (hV n hn s hs)) (.inl (by omega)) with h1 | h1
  · exfalso
    have hw := h.walk n hn (by omega)
    obtain ⟨k, hk⟩ : ∃ k, (f n).toNat = k + 1 := ⟨(f n).toNat - 1, by omega⟩
    rw [hk] at hw
    cases hw with
    | cons e hw =>
    rename_i b
    have hb := hV n hn b e
    have h2 := h.least hV hb hw
    have h3 := h.edge n hn b e h2.1
    exact h1.2.2 b e (by omega)
  · refine ⟨?_, h1.2.1, h1.2.2.2.2⟩
    rcases h1.2.2.1 with h2 | h2
    · omega
    · exact h2
end Go.Proofs.Ytmlikgmcekofbaa.Grf
end

section
/- The small printed functions of chapter 6 in plain lists. -/
set_option linter.unusedVariables false
set_option linter.unusedSimpArgs false
namespace Go.Proofs.Ytmlikgmcekofbaa
open Go.RowKit Go.Proofs.YtmlikgmcekofbaaW.PrintWords Go.Proofs.Ytmlikgmcekofbaa.PDigraphTells

/-- From some fuel on, g answers r. -/
def Ev {α : Type} (g : Nat → Option α) (r : α) : Prop := ∃ K, ∀ k, K ≤ k → g k = some r
theorem Ev.suc {α : Type} {g h : Nat → Option α} {r : α} (e : ∀ k, g (k + 1) = h k) (H : Ev h r) : Ev g r := by
  obtain ⟨K, hK⟩ := H
  refine ⟨K + 1, fun k hk => ?_⟩
  obtain ⟨m, rfl⟩ : ∃ m, k = m + 1 := ⟨k - 1, by omega⟩
  rw [e]
  exact hK m (by omega)
theorem Ev.ret {α : Type} (r : α) : Ev (fun _ => some r) r := ⟨0, fun _ _ => rfl⟩
theorem Ev.bind {α β : Type} {g : Nat → Option α} {G : Nat → α → Option β} {a : α} {r : β} (h : Ev g a) (H : Ev (fun k => G k a) r) : Ev (fun k => (g k).bind (G k)) r := by
  obtain ⟨K, hK⟩ := h
  obtain ⟨L, hL⟩ := H
  refine ⟨K + L, fun k hk => ?_⟩
  show (g k).bind (G k) = some r
  rw [hK k (by omega), Option.bind_some]
  exact hL k (by omega)
theorem Ev.get {α : Type} {g : Nat → Option α} {r : α} (h : Ev g r) : ∃ k, g k = some r := by
  obtain ⟨K, hK⟩ := h
  exact ⟨K, hK K (Nat.le_refl _)⟩
theorem Ev.of {α : Type} {g h : Nat → Option α} {r : α} (e : ∀ k, g k = h k) (H : Ev h r) : Ev g r := by
  obtain ⟨K, hK⟩ := H
  exact ⟨K, fun k hk => by rw [e]; exact hK k hk⟩

theorem rd_get (l : List Int) (i : Nat) (h : i < l.length) : rd l (i : Int) = l[i] := by
  simp [rd, h]
theorem rd1_get (l : List (List Int)) (i : Nat) (h : i < l.length) : rd_L1 l (i : Int) = l[i] := by
  simp [rd_L1, h]
theorem w64 (i n : Nat) (h : i < n) (hn : n < 4611686018427387904) : wrap64 ((i : Int) + 1) = ((i + 1 : Nat) : Int) := by
  unfold wrap64; omega

/-- A node of the graph. -/
def isNode (G : List (List Int)) (s : Int) : Prop := 0 ≤ s ∧ s < G.length
instance (G : List (List Int)) (s : Int) : Decidable (isNode G s) := by unfold isNode; infer_instance
def okRows (G : List (List Int)) : Bool := G.all fun l => l.all fun s => decide (isNode G s)
def chk (G : List (List Int)) : Int := if G.length > 65536 then 11 else if okRows G = true then 0 else 10
theorem okRows_iff (G : List (List Int)) : okRows G = true ↔ ∀ l ∈ G, ∀ s ∈ l, isNode G s := by
  unfold okRows; simp [List.all_eq_true]
theorem chk_ok {G : List (List Int)} : chk G = 0 ↔ G.length ≤ 65536 ∧ ∀ l ∈ G, ∀ s ∈ l, isNode G s := by
  unfold chk
  rw [← okRows_iff]
  split
  · simp; omega
  · split
    · rename_i h1 h2; simp [h2]; omega
    · rename_i h1 h2; simp [h2]
def short (G : List (List Int)) : Prop := G.length < 4611686018427387904 ∧ ∀ l ∈ G, l.length < 4611686018427387904

theorem chk_l1_good (G : List (List Int)) (hl : G.length < 4611686018427387904) (i : Nat) (row : List Int) (hr : row.length < 4611686018427387904) (r : Int) (hK : Ev (fun k => digraph_Check.l0 k G (G.length : Int) (wrap64 ((i : Int) + 1)) G) r) :
    ∀ (d j : Nat), j + d = row.length → (∀ s ∈ row.drop j, isNode G s) → Ev (fun k => digraph_Check.l1 k G (G.length : Int) (i : Int) row (row.length : Int) (j : Int) G) r := by
  intro d
  induction d with
  | zero =>
    intro j hj _
    refine Ev.suc (fun k => ?_) hK
    simp only [digraph_Check.l1]
    rw [if_neg (by omega)]
  | succ d ih =>
    intro j hj hs
    have hlt : j < row.length := by omega
    rw [List.drop_eq_getElem_cons hlt] at hs
    have h1 := hs _ List.mem_cons_self
    refine Ev.suc (fun k => ?_) (ih (j + 1) (by omega) (fun s h => hs s (List.mem_cons_of_mem _ h)))
    simp only [digraph_Check.l1]
    rw [if_pos (by omega), if_pos (by omega), if_pos (by omega), rd_get row j hlt, if_neg (by unfold isNode at h1; omega), if_neg (by unfold isNode at h1; omega), w64 j row.length hlt hr]
theorem chk_l1_bad (G : List (List Int)) (i : Nat) (row : List Int) (hr : row.length < 4611686018427387904) :
    ∀ (d j : Nat), j + d = row.length → (∃ s ∈ row.drop j, ¬ isNode G s) → Ev (fun k => digraph_Check.l1 k G (G.length : Int) (i : Int) row (row.length : Int) (j : Int) G) 10 := by
  intro d
  induction d with
  | zero =>
    intro j hj hs
    rw [List.drop_eq_nil_of_le (by omega)] at hs
    obtain ⟨s, h, _⟩ := hs
    cases h
  | succ d ih =>
    intro j hj hs
    have hlt : j < row.length := by omega
    by_cases h1 : isNode G row[j]
    · refine Ev.suc (fun k => ?_) (ih (j + 1) (by omega) ?_)
      · simp only [digraph_Check.l1]
        rw [if_pos (by omega), if_pos (by omega), if_pos (by omega), rd_get row j hlt, if_neg (by unfold isNode at h1; omega), if_neg (by unfold isNode at h1; omega), w64 j row.length hlt hr]
      · rw [List.drop_eq_getElem_cons hlt] at hs
        obtain ⟨s, h2, h3⟩ := hs
        rcases List.mem_cons.1 h2 with h4 | h4
        · exact absurd (by rw [h4]; exact h1) h3
        · exact ⟨s, h4, h3⟩
    · refine Ev.suc (fun k => ?_) (Ev.ret 10)
      simp only [digraph_Check.l1]
      rw [if_pos (by omega), if_pos (by omega), if_pos (by omega), rd_get row j hlt]
      by_cases h2 : row[j] < 0
      · rw [if_pos h2]
      · rw [if_neg h2, if_pos (by unfold isNode at h1; omega)]
theorem chk_l0 (G : List (List Int)) (hs : short G) : ∀ (d i : Nat), i + d = G.length → Ev (fun k => digraph_Check.l0 k G (G.length : Int) (i : Int) G) (if (G.drop i).all (fun l => l.all fun s => decide (isNode G s)) = true then 0 else 10) := by
  intro d
  induction d with
  | zero =>
    intro i hi
    rw [List.drop_eq_nil_of_le (by omega)]
    refine Ev.suc (fun k => ?_) (Ev.ret 0)
    simp only [digraph_Check.l0]
    rw [if_neg (by omega)]
  | succ d ih =>
    intro i hi
    have hlt : i < G.length := by omega
    have hr := hs.2 _ (List.getElem_mem hlt)
    have hstep : ∀ k, digraph_Check.l0 (k + 1) G (G.length : Int) (i : Int) G = digraph_Check.l1 k G (G.length : Int) (i : Int) G[i] (G[i].length : Int) ((0 : Nat) : Int) G := by
      intro k
      simp only [digraph_Check.l0]
      rw [if_pos (by omega), if_pos (by omega), if_pos (by omega), rd1_get G i hlt]
      rfl
    rw [List.drop_eq_getElem_cons hlt, List.all_cons]
    by_cases h : (G[i].all fun s => decide (isNode G s)) = true
    · rw [h, Bool.true_and]
      refine Ev.suc hstep (chk_l1_good G hs.1 i G[i] hr _ ?_ G[i].length 0 (by omega) ?_)
      · rw [w64 i G.length hlt hs.1]; exact ih (i + 1) (by omega)
      · intro s h2; rw [List.drop_zero] at h2; simpa using List.all_eq_true.1 h s h2
    · rw [Bool.not_eq_true] at h
      rw [h, Bool.false_and, if_neg (by simp)]
      refine Ev.suc hstep (chk_l1_bad G i G[i] hr G[i].length 0 (by omega) ?_)
      rw [List.all_eq_false] at h
      obtain ⟨s, h2, h3⟩ := h
      exact ⟨s, by rw [List.drop_zero]; exact h2, by simpa using h3⟩
theorem chk_f (G : List (List Int)) (hs : short G) : Ev (fun k => digraph_Check.f k G) (chk G) := by
  unfold digraph_Check.f chk
  by_cases h : G.length > 65536
  · rw [if_pos h]
    exact Ev.of (fun k => by rw [if_pos (by omega)]) (Ev.ret 11)
  · rw [if_neg h]
    refine Ev.of (fun k => by rw [if_neg (by omega)]) ?_
    have := chk_l0 G hs G.length 0 (by omega)
    rw [List.drop_zero] at this
    exact this
/-! ### The comparisons. -/
/-! ### The number of edges. -/
def edges (G : List (List Int)) : Nat := (G.map List.length).sum
theorem row_le_edges : ∀ (G : List (List Int)) (l : List Int), l ∈ G → l.length ≤ edges G
  | [], _, h => by cases h
  | a :: G, l, h => by
    simp only [edges, List.map_cons, List.sum_cons]
    rcases List.mem_cons.1 h with rfl | h
    · omega
    · have := row_le_edges G l h
      simp only [edges] at this
      omega
end Go.Proofs.Ytmlikgmcekofbaa
end

section
/- The reference's search and reachability in plain lists. -/
set_option linter.unusedVariables false
set_option linter.unusedSimpArgs false
namespace Go.Proofs.Ytmlikgmcekofbaa
open Go.RowKit Go.Proofs.YtmlikgmcekofbaaW.PrintWords Go.Proofs.Ytmlikgmcekofbaa.PDigraphTells Grf

def adj (G : List (List Int)) (a : Int) : List Int := rd_L1 G a
def nodes (G : List (List Int)) : List Int := (List.range G.length).map fun (i : Nat) => (i : Int)
theorem mem_nodes (G : List (List Int)) (a : Int) : a ∈ nodes G ↔ isNode G a := by
  unfold nodes isNode
  rw [List.mem_map]
  constructor
  · rintro ⟨i, hi, rfl⟩
    rw [List.mem_range] at hi
    omega
  · intro h
    exact ⟨a.toNat, List.mem_range.2 (by omega), by omega⟩
theorem nodes_len (G : List (List Int)) : (nodes G).length = G.length := by unfold nodes; simp
theorem nodes_nd (G : List (List Int)) : (nodes G).Nodup := by
  unfold nodes
  unfold List.Nodup
  rw [List.pairwise_map]
  exact List.nodup_range.imp (fun h e => h (by omega))
theorem adj_eq {G : List (List Int)} {a : Int} (h : isNode G a) : ∃ (hi : a.toNat < G.length), adj G a = G[a.toNat] := by
  unfold isNode at h
  have hi : a.toNat < G.length := by omega
  exact ⟨hi, by unfold adj; simp [rd_L1, hi]⟩
theorem adj_mem {G : List (List Int)} {a : Int} (h : isNode G a) : adj G a ∈ G := by
  obtain ⟨hi, e⟩ := adj_eq h
  rw [e]
  exact List.getElem_mem hi
theorem adj_nat (G : List (List Int)) (i : Nat) (h : i < G.length) : adj G (i : Int) = G[i] := rd1_get G i h
/-- A graph that Check passes. -/
def okG (G : List (List Int)) : Prop := chk G = 0
theorem okG.len {G : List (List Int)} (h : okG G) : G.length ≤ 65536 := (chk_ok.1 h).1
theorem okG.row {G : List (List Int)} (h : okG G) {l : List Int} (hl : l ∈ G) {s : Int} (hs : s ∈ l) : isNode G s := (chk_ok.1 h).2 l hl s hs
theorem okG.adj {G : List (List Int)} (h : okG G) {a b : Int} (ha : isNode G a) (hb : b ∈ adj G a) : isNode G b := h.row (adj_mem ha) hb
theorem okG.cl {G : List (List Int)} (h : okG G) : ∀ a ∈ nodes G, ∀ b ∈ Go.Proofs.Ytmlikgmcekofbaa.adj G a, b ∈ nodes G := fun a ha b hb => (mem_nodes G b).2 (h.adj ((mem_nodes G a).1 ha) hb)

/-- The depth-first postorder. -/
def post (G : List (List Int)) (a : Int) : List Int := if chk G = 0 ∧ isNode G a then (visit (adj G) G.length a (fun _ => false) []).2 else []
theorem cnt_all (G : List (List Int)) : cnt (nodes G) (fun _ => false) = G.length := by
  unfold cnt
  rw [List.filter_eq_self.2 (by simp), nodes_len]
end Go.Proofs.Ytmlikgmcekofbaa
end

section
/- Small words on the machine's memory for the hand-made walks: a block's cells, and 'Kp S w w'': w' is w but for the blocks of S and new blocks. -/
set_option linter.unusedVariables false
namespace Go.Proofs.Ytmlikgmcekofbaa.Mem
open Go.RowKit Go.Proofs.YtmlikgmcekofbaaW.PrintWords

theorem cell_at {w : World} {p j t : Nat} {cs : Array Value} {v : Value} (h : w.heap[p]? = some (.cells cs t (0, 0))) (hj : cs[j]? = some v) : w.cell? ⟨p, j, none⟩ = some v := by
  simp [World.cell?, h, hj]
theorem free_at {w : World} {p t : Nat} {cs : Array Value} (h : w.heap[p]? = some (.cells cs t (0, 0))) (j : Nat) : w.frozen? ⟨p, j, none⟩ = false := by
  simp [World.frozen?, h]
theorem blk_lt' {w : World} {p : Nat} {o : Obj} (h : w.heap[p]? = some o) : p < w.heap.size := (Array.getElem?_eq_some_iff.1 h).1

theorem set_at {w : World} {p j t : Nat} {cs : Array Value} {fr : Nat × Nat} (h : w.heap[p]? = some (.cells cs t fr)) (v : Value) : (w.setCell ⟨p, j, none⟩ v).heap[p]? = some (.cells (cs.setIfInBounds j v) t fr) := by
  simp [World.setCell, Array.getElem?_modify, h]

theorem still_tail {P : Program} {id : Nat} {Q : Exit → Act → World → Prop} {a : Act} {w : World} {l : List Oper} (n : Nat) (hm : P.follows .mixedOrders = true) (hB : Region.lexTailB .any l.toArray n = true)
    (h : wpStill P l.toArray w.drew (fun a' => wpList P l.toArray Q (l.drop n) a' w.drew) (l.take n) a) : (Code.region id l.toArray true).wp P Q a w := wp_region_still_tail n hm hB h

structure Kp (S : Nat → Prop) (w w' : World) : Prop where
  os : w'.os = w.os
  tape : w'.tape = w.tape
  output : w'.output = w.output
  kept : Kept w w' S

section
variable {S S2 S' : Nat → Prop} {w W W2 : World}
theorem Kp.size (h : Kp S w W) : w.heap.size ≤ W.heap.size := h.kept.1
theorem Kp.block (h : Kp S w W) {k : Nat} (hk : k < w.heap.size) (hn : ¬ S k) : W.heap[k]? = w.heap[k]? := h.kept.2 k hk hn
theorem Kp.refl (S : Nat → Prop) (w : World) : Kp S w w := ⟨rfl, rfl, rfl, Kept.refl _ _⟩
theorem Kp.of_below (h : Below w.heap.size w W) (S : Nat → Prop) : Kp S w W := ⟨h.os, h.tape, h.output, Kept.of_below h S⟩
theorem Kp.mono (h : Kp S w W) (hs : ∀ k, S k → S' k) : Kp S' w W := ⟨h.os, h.tape, h.output, h.kept.mono hs⟩
theorem Kp.then_ (h : Kp S w W) (k : Kp S2 W W2) (hs : ∀ k, S2 k → S k ∨ w.heap.size ≤ k) : Kp S w W2 :=
  ⟨k.os.trans h.os, k.tape.trans h.tape, k.output.trans h.output, h.kept.then_ k.kept hs⟩
theorem Kp.alloc (h : Kp S w W) (o : Obj) : Kp S w (W.alloc o) := ⟨h.os, h.tape, h.output, h.kept.alloc o⟩
theorem Kp.drew (h : Kp S w W) : Kp S w W.drew := ⟨h.os, h.tape, h.output, h.kept⟩
theorem Kp.drewN (h : Kp S w W) (m : Nat) : Kp S w (W.drewN m) := ⟨h.os, h.tape, h.output, h.kept⟩
theorem Kp.setCell (h : Kp S w W) {p : Addr} (hp : S p.block ∨ w.heap.size ≤ p.block) (u : Value) : Kp S w (W.setCell p u) := ⟨h.os, h.tape, h.output, h.kept.setCell hp u⟩
theorem Kp.grown {row : Option Nat} (h : Kp S w W) (hg : W.grownBy W2 row) (hr : ∀ k, row = some k → S k ∨ w.heap.size ≤ k) : Kp S w W2 :=
  ⟨hg.os.trans h.os, hg.tape.trans h.tape, hg.output.trans h.output, Kept.of_grown hg h.kept hr⟩
theorem Kp.below (h : Kp S w W) (hs : ∀ k, S k → w.heap.size ≤ k) : Below w.heap.size w W :=
  ⟨h.os, h.tape, h.output, h.size, fun k hk => h.block hk (fun h' => by have := hs k h'; omega)⟩
theorem Kp.belowB {B : Nat} (h : Kp S w W) (hs : ∀ k, S k → B ≤ k) (hB : B ≤ w.heap.size) : Below B w W :=
  ⟨h.os, h.tape, h.output, h.size, fun k hk => h.block (by omega) (fun h' => by have := hs k h'; omega)⟩
theorem Kp.none_below (h : Kp (fun _ => False) w W) : Below w.heap.size w W := h.below (fun _ hk => hk.elim)
theorem Kp.blk {k : Nat} {o : Obj} (h : Kp S w W) (hb : w.heap[k]? = some o) (hn : ¬ S k) : W.heap[k]? = some o := (h.block (blk_lt' hb) hn).trans hb
end
end Go.Proofs.Ytmlikgmcekofbaa.Mem
end

section
/- The machine's memory in chapter 7: rows of ints and bools, the stack of calls, a queue, the finder. -/
set_option linter.unusedVariables false
set_option linter.unusedSimpArgs false
set_option linter.unusedSectionVars false
namespace Go.Proofs.Ytmlikgmcekofbaa
open Go.RowKit Go.Proofs.YtmlikgmcekofbaaW.PrintWords Go.Proofs.Ytmlikgmcekofbaa.PDigraphTells Mem

theorem infoF : (Try.prog.info? 58).map (fun i => (i.zero, i.size, i.bytes)) = some (some (.agg #[(.int .i64 0), (.int .i64 0)]), 2, 16) := by kernel_rfl
def kF : Kd (Int × Nat) := Kd.iso (Kd.pair (Kd.int .i64) (Kd.int .i64)) (fun x : Int × Nat => (x.1, (x.2 : Int)))
theorem kF_open {w : World} {x : Int × Nat} {cs : List Value} (h : kF.K w x cs) : cs = [.int .i64 x.1, .int .i64 (x.2 : Int)] := by
  obtain ⟨_, _, rfl, rfl, rfl⟩ := h
  exact rfl
theorem kF_mkM (w : World) (base : Nat) (ok : Nat → Prop) (x : Int × Nat) : kF.M w base ok x [.int .i64 x.1, .int .i64 (x.2 : Int)] := ⟨[.int .i64 x.1], [.int .i64 (x.2 : Int)], rfl, rfl, rfl⟩
theorem add0 (g k : Nat) : (⟨g, 0, none⟩ : Addr).add k = ⟨g, k, none⟩ := by
  unfold Addr.add
  by_cases h : k = 0
  · subst h; simp
  · simp [h]
theorem R_free {α : Type} {d : Kd α} {e : Nat} {w : World} {ok : Nat → Prop} {g n cap : Nat} {xs : List α} (h : Kd.R d e w 0 ok (.slice (some ⟨g, 0, none⟩) n cap) xs) (j : Nat) : w.frozen? ⟨g, j, none⟩ = false := by
  obtain ⟨h0, inner, ⟨hl, ho2⟩, hr⟩ := h
  rcases ho2 with ⟨hv, _⟩ | ⟨g', cap', cur, hv, hb, hh, hnc', hcm, hcs, ht⟩
  · cases hv
  injection hv with ha _ hc
  injection ha with ha
  injection ha with hg
  subst hg
  exact free_at hh j
/-- A frame of one's own is read. -/
theorem R_atF {w : World} {ok : Nat → Prop} {g n cap : Nat} {xs : List (Int × Nat)} (h : Kd.R kF 58 w 0 ok (.slice (some ⟨g, 0, none⟩) n cap) xs) (i : Nat) (hi : i < xs.length) :
    w.cell? ⟨g, i * 2, none⟩ = some (.int .i64 (xs[i]).1) ∧ w.cell? ⟨g, i * 2 + 1, none⟩ = some (.int .i64 ((xs[i]).2 : Int)) ∧ w.frozen? ⟨g, i * 2, none⟩ = false ∧ w.frozen? ⟨g, i * 2 + 1, none⟩ = false := by
  obtain ⟨hn, hc, hC⟩ := Kd.R_reads' h
  obtain ⟨ad, c, e, _, hK, hc0⟩ := Kd.C_get hC (0, 0) (i : Int) (by omega) (by omega)
  injection e with e
  subst e
  obtain rfl := kF_open hK
  have e1 : xs.getD ((i : Int)).toNat (0, 0) = xs[i] := by simp [hi]
  rw [e1] at hc0
  have h1 := hc0 0 _ rfl
  have h2 := hc0 1 _ rfl
  rw [Int.toNat_natCast, show kF.sz = 2 from rfl, add0] at h1 h2
  exact ⟨h1, h2, R_free h _, R_free h _⟩
/-- A frame's second cell is written over. -/
theorem R_nextF {w : World} {ok : Nat → Prop} {g n cap : Nat} {xs : List (Int × Nat)} (h : Kd.R kF 58 w 0 ok (.slice (some ⟨g, 0, none⟩) n cap) xs) (i : Nat) (hi : i < xs.length) (t : Nat) :
    Kd.R kF 58 (w.setCell ⟨g, i * 2 + 1, none⟩ (.int .i64 (t : Int))) 0 ok (.slice (some ⟨g, 0, none⟩) n cap) (xs.set i (xs[i].1, t)) ∧ Kp ok w (w.setCell ⟨g, i * 2 + 1, none⟩ (.int .i64 (t : Int))) := by
  obtain ⟨hn, _, hC⟩ := Kd.R_reads' h
  obtain ⟨h1', h2', _, _⟩ := R_atF h i hi
  have := Kd.R_seg h (i : Int) (by omega) (by omega) (c := [.int .i64 (xs[i]).1, .int .i64 ((xs[i]).2 : Int)]) (seg := [.int .i64 (t : Int)]) (j := 1) (x' := (xs[i].1, t)) (okp := fun _ => False) rfl (fun j u hj => by
    rw [Int.toNat_natCast, show kF.sz = 2 from rfl]
    rcases j with _ | _ | j
    · simp at hj; rw [← hj]; exact h1'
    · simp at hj; rw [← hj]; exact h2'
    · simp at hj) (by show 1 + 1 ≤ 2; omega) (kF_mkM _ _ _ (xs[i].1, t)) (fun _ h => h.elim)
  rw [Int.toNat_natCast, show kF.sz = 2 from rfl] at this
  exact ⟨this.1, (Kp.refl ok w).grown this.2 (fun j hj => .inl (h.1 j (by simpa [Value.ownBlock] using hj)))⟩

abbrev kG : Kd (List Int) := Kd.slice 3 (Kd.int .i64)
theorem own_oneF (W : World) (x : Int × Nat) : Kd.R kF 58 (W.alloc (.cells #[.int .i64 x.1, .int .i64 (x.2 : Int)] 58)) 0 (fun k => k = W.heap.size) (.slice (some ⟨W.heap.size, 0, none⟩) 1 1) [x] := by
  refine ⟨fun k hk => ?_, [.int .i64 x.1, .int .i64 (x.2 : Int)], ?_, ⟨rfl, fun j p hj => ?_⟩⟩
  · have : W.heap.size = k := by simpa [Value.ownBlock] using hk
    exact this.symm
  · have h := World.ownsRow_lit (base := 0) (e := 58) (size := 2) W #[.int .i64 x.1, .int .i64 (x.2 : Int)] 1 (Nat.zero_le _) (by unfold maxLen; omega) (by simp)
    exact h
  · rcases j with _ | j
    · simp at hj
      subst hj
      exact kF_mkM _ _ _ x
    · simp at hj
theorem getLast_app {α : Type} (l : List α) (x : α) (h : l.length < (l ++ [x]).length) : (l ++ [x])[l.length]'h = x := by simp
theorem set_last {α : Type} (l : List α) (x y : α) : (l ++ [x]).set l.length y = l ++ [y] := by simp
theorem take_last {α : Type} (l : List α) (x : α) : (l ++ [x]).take l.length = l := by simp
/-- The zeros of make. -/
theorem cells_zero (N : Nat) : madeCells (Value.int .i64 0).cells N = (List.replicate N (Value.int .i64 0)).toArray := by
  unfold madeCells
  apply Array.ext
  · simp
  · intro i h1 h2
    simp [Value.cells, Nat.mod_one]
theorem info3' : ∃ i, Try.prog.info? 3 = some i ∧ i.zero = some (.int .i64 0) ∧ i.size = 1 ∧ i.bytes = 8 := by
  obtain ⟨i, h1, h2⟩ := Option.map_eq_some_iff.1 info3
  simp only [Prod.mk.injEq] at h2
  exact ⟨i, h1, h2.1, h2.2.1, h2.2.2⟩
theorem make_run (N : Nat) (hN : N ≤ 70000) (w : World) : (Instr.makeSlice 29 (.int .i64 (N : Int)) (.int .i64 (N : Int))).run Try.prog w = .ok (.slice (some ⟨w.heap.size, 0, none⟩) N N) (w.alloc (.cells (List.replicate N (Value.int .i64 0)).toArray 3)) := by
  obtain ⟨i, h1, h2, h3, h4⟩ := info3'
  have h := run_make (P := Try.prog) w 29 3 i (.int .i64 0) Try.underlying29 h1 h2 .i64 .i64 (N : Int) (N : Int) (by omega) (by omega) (by rw [h4]; omega) (by omega)
  rw [Int.toNat_natCast, h3, Nat.mul_one, cells_zero] at h
  exact h
/-- v is a queue that holds q, in a block that satisfies ok. -/
def QR (w : World) (ok : Nat → Prop) (v : Value) (q : List Int) : Prop :=
  ∃ A cap, v = .slice A q.length cap ∧ (0 < q.length → ∃ g off cur, A = some ⟨g, off, none⟩ ∧ ok g ∧ w.heap[g]? = some (.cells cur 3 (0, 0)) ∧ q.length ≤ cap ∧ cap ≤ maxLen ∧ cur.size = off + cap ∧ (cur.toList.drop off).take q.length = encs (Value.int .i64) q)
theorem QR.step {w W : World} {ok : Nat → Prop} {v : Value} {q : List Int} (h : QR w ok v q) (hm : ∀ k, ok k → k < w.heap.size → W.heap[k]? = w.heap[k]?) : QR W ok v q := by
  obtain ⟨A, cap, rfl, h⟩ := h
  refine ⟨A, cap, rfl, fun hp => ?_⟩
  obtain ⟨g, off, cur, hA, hg, hh, r⟩ := h hp
  exact ⟨g, off, cur, hA, hg, (hm g hg (blk_lt' hh)).trans hh, r⟩
theorem QR.mono {w : World} {ok ok' : Nat → Prop} {v : Value} {q : List Int} (h : QR w ok v q) (hm : ∀ k, ok k → k < w.heap.size → ok' k) : QR w ok' v q := by
  obtain ⟨A, cap, rfl, h⟩ := h
  refine ⟨A, cap, rfl, fun hp => ?_⟩
  obtain ⟨g, off, cur, hA, hg, hh, r⟩ := h hp
  exact ⟨g, off, cur, hA, hm g hg (blk_lt' hh), hh, r⟩
theorem QR.at_ {w : World} {ok : Nat → Prop} {v : Value} {x : Int} {q : List Int} (h : QR w ok v (x :: q)) : ∃ g off cap, v = .slice (some ⟨g, off, none⟩) (q.length + 1) cap ∧ q.length + 1 ≤ cap ∧ w.cell? ⟨g, off, none⟩ = some (.int .i64 x) := by
  obtain ⟨A, cap, rfl, h⟩ := h
  obtain ⟨g, off, cur, rfl, hg, hh, hle, hcm, hcs, ht⟩ := h (by simp)
  refine ⟨g, off, cap, rfl, by simpa using hle, cell_at hh ?_⟩
  have h0 : ((cur.toList.drop off).take (x :: q).length)[0]? = some (.int .i64 x) := by rw [ht]; rfl
  rw [List.getElem?_take] at h0
  simp only [List.length_cons, Nat.zero_lt_succ, if_true, List.getElem?_drop, Nat.add_zero] at h0
  simpa using h0
theorem QR.tail {w : World} {ok : Nat → Prop} {x : Int} {q : List Int} {g off cap : Nat} (h : QR w ok (.slice (some ⟨g, off, none⟩) (q.length + 1) cap) (x :: q)) (A : Option Addr) (hA : 0 < q.length → A = some ⟨g, off + 1, none⟩) : QR w ok (.slice A q.length (cap - 1)) q := by
  obtain ⟨A1, cap1, e, h⟩ := h
  injection e with e1 e2 e3
  subst e1
  subst e3
  refine ⟨A, cap - 1, rfl, fun hp => ?_⟩
  obtain ⟨g1, off1, cur, e, hg, hh, hle, hcm, hcs, ht⟩ := h (by simp)
  injection e with e
  injection e with e4 e5
  subst e4
  subst e5
  simp only [List.length_cons] at hle ht
  refine ⟨g, off + 1, cur, hA hp, hg, hh, by omega, by omega, by omega, ?_⟩
  have h2 : ((cur.toList.drop off).take (q.length + 1)).drop 1 = (encs (Value.int .i64) (x :: q)).drop 1 := by rw [ht]
  rw [List.drop_take, List.drop_drop] at h2
  simpa [encs] using h2
/-- The cells of a row of ints, of bools. -/
def aI (l : List Int) : Array Value := (l.map (Value.int .i64)).toArray
def aB (l : List Bool) : Array Value := (l.map Value.bool).toArray
theorem aI_at {l : List Int} {x : Int} (h0 : 0 ≤ x) (h : x < l.length) : (aI l)[x.toNat]? = some (.int .i64 (rd l x)) := by
  have h1 : x.toNat < l.length := by omega
  have h2 : rd l x = l[x.toNat] := by rw [← rd_get l x.toNat h1, Int.toNat_of_nonneg h0]
  simp [aI, h1, h2]
theorem aB_at {l : List Bool} {x : Int} (h0 : 0 ≤ x) (h : x < l.length) : (aB l)[x.toNat]? = some (.bool (rdOf false l x)) := by
  have h1 : x.toNat < l.length := by omega
  have h2 : rdOf false l x = l[x.toNat] := by simp [rdOf, h0, h1]
  simp [aB, h1, h2]
theorem aI_set (l : List Int) (i : Nat) (v : Int) : (aI l).setIfInBounds i (.int .i64 v) = aI (l.set i v) := by
  unfold aI
  rw [List.setIfInBounds_toArray, List.map_set]
theorem aB_set (l : List Bool) (i : Nat) (v : Bool) : (aB l).setIfInBounds i (.bool v) = aB (l.set i v) := by
  unfold aB
  rw [List.setIfInBounds_toArray, List.map_set]

/-- What the finder holds. -/
structure FD where
  ord : List Int
  low : List Int
  on : List Bool
  stk : List Int
  comp : List Int
  cnt : Int
  nxt : Int
/-- The finder in memory: itself at p, its rows at b1 .. b4, its stack vs in blocks of its own. -/
structure FS (G : List (List Int)) (A : Option Addr) (c : Nat) (w wr : World) (p b1 b2 b3 b4 : Nat) (vs : Value) (d : FD) : Prop where
  cell : wr.heap[p]? = some (.cells #[.slice A G.length c, .slice (some ⟨b1, 0, none⟩) G.length G.length, .slice (some ⟨b2, 0, none⟩) G.length G.length, .slice (some ⟨b3, 0, none⟩) G.length G.length, vs, .slice (some ⟨b4, 0, none⟩) G.length G.length, .int .i64 d.cnt, .int .i64 d.nxt] 50 (0, 0))
  h1 : wr.heap[b1]? = some (.cells (aI d.ord) 3 (0, 0))
  h2 : wr.heap[b2]? = some (.cells (aI d.low) 3 (0, 0))
  h3 : wr.heap[b3]? = some (.cells (aB d.on) 4 (0, 0))
  h4 : wr.heap[b4]? = some (.cells (aI d.comp) 3 (0, 0))
  st : wr.ownsRow 0 3 1 vs d.stk.length (encs (Value.int .i64) d.stk) ∧ ∀ k, vs.ownBlock = some k → w.heap.size ≤ k ∧ k ≠ p ∧ k ≠ b1 ∧ k ≠ b2 ∧ k ≠ b3 ∧ k ≠ b4
  ne : p ≠ b1 ∧ p ≠ b2 ∧ p ≠ b3 ∧ p ≠ b4 ∧ b1 ≠ b2 ∧ b1 ≠ b3 ∧ b1 ≠ b4 ∧ b2 ≠ b3 ∧ b2 ≠ b4 ∧ b3 ≠ b4
  ge : w.heap.size ≤ p ∧ w.heap.size ≤ b1 ∧ w.heap.size ≤ b2 ∧ w.heap.size ≤ b3 ∧ w.heap.size ≤ b4
  below : Below w.heap.size w wr
  len : d.ord.length = G.length ∧ d.low.length = G.length ∧ d.on.length = G.length ∧ d.comp.length = G.length
section
variable {G : List (List Int)} {A : Option Addr} {c : Nat} {w wr W : World} {p b1 b2 b3 b4 : Nat} {vs : Value} {d : FD}
theorem FS.keep (h : FS G A c w wr p b1 b2 b3 b4 vs d) {T : Nat → Prop} (hk : Kp T wr W) (hT : ∀ k, T k → wr.heap.size ≤ k) : FS G A c w W p b1 b2 b3 b4 vs d := by
  have hB := hk.below hT
  obtain ⟨hR, hS⟩ := h.st
  exact ⟨(hB.block p (blk_lt' h.cell)).trans h.cell, (hB.block _ (blk_lt' h.h1)).trans h.h1, (hB.block _ (blk_lt' h.h2)).trans h.h2, (hB.block _ (blk_lt' h.h3)).trans h.h3, (hB.block _ (blk_lt' h.h4)).trans h.h4,
    ⟨own_move hR (fun k hk => hB.block k (own_lt hR k hk)), hS⟩, h.ne, h.ge, h.below.trans (hB.mono h.below.size), h.len⟩
theorem FS.step (h : FS G A c w wr p b1 b2 b3 b4 vs d) (hb : Below wr.heap.size wr W) : FS G A c w W p b1 b2 b3 b4 vs d := h.keep (Kp.of_below hb (fun _ => False)) (fun _ h => h.elim)
/-- A step that touches the blocks of T alone, which are none of the finder's. -/
theorem FS.apart (h : FS G A c w wr p b1 b2 b3 b4 vs d) {T : Nat → Prop} (hk : Kp T wr W) (hT : ∀ k, T k → w.heap.size ≤ k ∧ k ≠ p ∧ k ≠ b1 ∧ k ≠ b2 ∧ k ≠ b3 ∧ k ≠ b4) (hv : ∀ k, vs.ownBlock = some k → ¬ T k) : FS G A c w W p b1 b2 b3 b4 vs d := by
  obtain ⟨hR, hS⟩ := h.st
  refine ⟨hk.blk h.cell (fun e => (hT _ e).2.1 rfl), hk.blk h.h1 (fun e => (hT _ e).2.2.1 rfl), hk.blk h.h2 (fun e => (hT _ e).2.2.2.1 rfl), hk.blk h.h3 (fun e => (hT _ e).2.2.2.2.1 rfl), hk.blk h.h4 (fun e => (hT _ e).2.2.2.2.2 rfl),
    ⟨own_move hR (fun k hk1 => hk.block (own_lt hR k hk1) (hv k hk1)), hS⟩, h.ne, h.ge, h.below.trans (hk.belowB (fun k hk => (hT k hk).1) h.below.size), h.len⟩
theorem set_other {W : World} {b i k : Nat} (v : Value) (h : k ≠ b) : (W.setCell ⟨b, i, none⟩ v).heap[k]? = W.heap[k]? := Below.heap_setCell W ⟨b, i, none⟩ v k h
theorem FS.set1 (h : FS G A c w wr p b1 b2 b3 b4 vs d) (i : Nat) (v : Int) : FS G A c w (wr.setCell ⟨b1, i, none⟩ (.int .i64 v)) p b1 b2 b3 b4 vs { d with ord := d.ord.set i v } := by
  obtain ⟨hR, hS⟩ := h.st
  obtain ⟨n1, n2, n3, n4, n5, n6, n7, n8, n9, n10⟩ := h.ne
  refine ⟨(set_other _ n1).trans h.cell, by rw [set_at h.h1, aI_set], (set_other _ n5.symm).trans h.h2, (set_other _ n6.symm).trans h.h3, (set_other _ n7.symm).trans h.h4, ⟨own_move hR (fun k hk => set_other _ (hS k hk).2.2.1), hS⟩, h.ne, h.ge,
    h.below.trans (((Kp.refl (fun k => k = b1) wr).setCell (p := ⟨b1, i, none⟩) (.inl rfl) _).belowB (fun k hk => by rw [hk]; exact h.ge.2.1) h.below.size), by simpa using h.len⟩
theorem FS.set2 (h : FS G A c w wr p b1 b2 b3 b4 vs d) (i : Nat) (v : Int) : FS G A c w (wr.setCell ⟨b2, i, none⟩ (.int .i64 v)) p b1 b2 b3 b4 vs { d with low := d.low.set i v } := by
  obtain ⟨hR, hS⟩ := h.st
  obtain ⟨n1, n2, n3, n4, n5, n6, n7, n8, n9, n10⟩ := h.ne
  refine ⟨(set_other _ n2).trans h.cell, (set_other _ n5).trans h.h1, by rw [set_at h.h2, aI_set], (set_other _ n8.symm).trans h.h3, (set_other _ n9.symm).trans h.h4, ⟨own_move hR (fun k hk => set_other _ (hS k hk).2.2.2.1), hS⟩, h.ne, h.ge,
    h.below.trans (((Kp.refl (fun k => k = b2) wr).setCell (p := ⟨b2, i, none⟩) (.inl rfl) _).belowB (fun k hk => by rw [hk]; exact h.ge.2.2.1) h.below.size), by simpa using h.len⟩
theorem FS.set3 (h : FS G A c w wr p b1 b2 b3 b4 vs d) (i : Nat) (v : Bool) : FS G A c w (wr.setCell ⟨b3, i, none⟩ (.bool v)) p b1 b2 b3 b4 vs { d with on := d.on.set i v } := by
  obtain ⟨hR, hS⟩ := h.st
  obtain ⟨n1, n2, n3, n4, n5, n6, n7, n8, n9, n10⟩ := h.ne
  refine ⟨(set_other _ n3).trans h.cell, (set_other _ n6).trans h.h1, (set_other _ n8).trans h.h2, by rw [set_at h.h3, aB_set], (set_other _ n10.symm).trans h.h4, ⟨own_move hR (fun k hk => set_other _ (hS k hk).2.2.2.2.1), hS⟩, h.ne, h.ge,
    h.below.trans (((Kp.refl (fun k => k = b3) wr).setCell (p := ⟨b3, i, none⟩) (.inl rfl) _).belowB (fun k hk => by rw [hk]; exact h.ge.2.2.2.1) h.below.size), by simpa using h.len⟩
theorem FS.set4 (h : FS G A c w wr p b1 b2 b3 b4 vs d) (i : Nat) (v : Int) : FS G A c w (wr.setCell ⟨b4, i, none⟩ (.int .i64 v)) p b1 b2 b3 b4 vs { d with comp := d.comp.set i v } := by
  obtain ⟨hR, hS⟩ := h.st
  obtain ⟨n1, n2, n3, n4, n5, n6, n7, n8, n9, n10⟩ := h.ne
  refine ⟨(set_other _ n4).trans h.cell, (set_other _ n7).trans h.h1, (set_other _ n9).trans h.h2, (set_other _ n10).trans h.h3, by rw [set_at h.h4, aI_set], ⟨own_move hR (fun k hk => set_other _ (hS k hk).2.2.2.2.2), hS⟩, h.ne, h.ge,
    h.below.trans (((Kp.refl (fun k => k = b4) wr).setCell (p := ⟨b4, i, none⟩) (.inl rfl) _).belowB (fun k hk => by rw [hk]; exact h.ge.2.2.2.2) h.below.size), by simpa using h.len⟩
theorem FS.setF (h : FS G A c w wr p b1 b2 b3 b4 vs d) (j : Nat) (u : Value) (vs' : Value) (d' : FD) (hc : (#[.slice A G.length c, .slice (some ⟨b1, 0, none⟩) G.length G.length, .slice (some ⟨b2, 0, none⟩) G.length G.length, .slice (some ⟨b3, 0, none⟩) G.length G.length, vs, .slice (some ⟨b4, 0, none⟩) G.length G.length, .int .i64 d.cnt, .int .i64 d.nxt] : Array Value).setIfInBounds j u = #[.slice A G.length c, .slice (some ⟨b1, 0, none⟩) G.length G.length, .slice (some ⟨b2, 0, none⟩) G.length G.length, .slice (some ⟨b3, 0, none⟩) G.length G.length, vs', .slice (some ⟨b4, 0, none⟩) G.length G.length, .int .i64 d'.cnt, .int .i64 d'.nxt])
    (hs : wr.ownsRow 0 3 1 vs' d'.stk.length (encs (Value.int .i64) d'.stk) ∧ ∀ k, vs'.ownBlock = some k → w.heap.size ≤ k ∧ k ≠ p ∧ k ≠ b1 ∧ k ≠ b2 ∧ k ≠ b3 ∧ k ≠ b4) (e : d'.ord = d.ord ∧ d'.low = d.low ∧ d'.on = d.on ∧ d'.comp = d.comp) :
    FS G A c w (wr.setCell ⟨p, j, none⟩ u) p b1 b2 b3 b4 vs' d' := by
  obtain ⟨hR, hS⟩ := hs
  obtain ⟨n1, n2, n3, n4, n5, n6, n7, n8, n9, n10⟩ := h.ne
  refine ⟨by rw [set_at h.cell, hc], ?_, ?_, ?_, ?_, ⟨own_move hR (fun k hk => set_other _ (hS k hk).2.1), hS⟩, h.ne, h.ge,
    h.below.trans (((Kp.refl (fun k => k = p) wr).setCell (p := ⟨p, j, none⟩) (.inl rfl) _).belowB (fun k hk => by rw [hk]; exact h.ge.1) h.below.size), ?_⟩
  · rw [e.1]; exact (set_other _ n1.symm).trans h.h1
  · rw [e.2.1]; exact (set_other _ n2.symm).trans h.h2
  · rw [e.2.2.1]; exact (set_other _ n3.symm).trans h.h3
  · rw [e.2.2.2]; exact (set_other _ n4.symm).trans h.h4
  · rw [e.1, e.2.1, e.2.2.1, e.2.2.2]; exact h.len
theorem FS.setNxt (h : FS G A c w wr p b1 b2 b3 b4 vs d) (v : Int) : FS G A c w (wr.setCell ⟨p, 7, none⟩ (.int .i64 v)) p b1 b2 b3 b4 vs { d with nxt := v } := h.setF 7 _ vs _ rfl h.st ⟨rfl, rfl, rfl, rfl⟩
theorem FS.setCnt (h : FS G A c w wr p b1 b2 b3 b4 vs d) (v : Int) : FS G A c w (wr.setCell ⟨p, 6, none⟩ (.int .i64 v)) p b1 b2 b3 b4 vs { d with cnt := v } := h.setF 6 _ vs _ rfl h.st ⟨rfl, rfl, rfl, rfl⟩
/-- The cells of the finder itself. -/
theorem FS.cs (h : FS G A c w wr p b1 b2 b3 b4 vs d) : wr.cell? ⟨p, 0, none⟩ = some (.slice A G.length c) ∧ wr.cell? ⟨p, 1, none⟩ = some (.slice (some ⟨b1, 0, none⟩) G.length G.length) ∧ wr.cell? ⟨p, 2, none⟩ = some (.slice (some ⟨b2, 0, none⟩) G.length G.length) ∧ wr.cell? ⟨p, 3, none⟩ = some (.slice (some ⟨b3, 0, none⟩) G.length G.length) ∧ wr.cell? ⟨p, 4, none⟩ = some vs ∧ wr.cell? ⟨p, 5, none⟩ = some (.slice (some ⟨b4, 0, none⟩) G.length G.length) ∧ wr.cell? ⟨p, 6, none⟩ = some (.int .i64 d.cnt) ∧ wr.cell? ⟨p, 7, none⟩ = some (.int .i64 d.nxt) :=
  ⟨cell_at h.cell rfl, cell_at h.cell rfl, cell_at h.cell rfl, cell_at h.cell rfl, cell_at h.cell rfl, cell_at h.cell rfl, cell_at h.cell rfl, cell_at h.cell rfl⟩
theorem FS.o1 (h : FS G A c w wr p b1 b2 b3 b4 vs d) {x : Int} (h0 : 0 ≤ x) (hx : x < G.length) : wr.cell? ⟨b1, x.toNat, none⟩ = some (.int .i64 (rd d.ord x)) ∧ wr.frozen? ⟨b1, x.toNat, none⟩ = false := ⟨cell_at h.h1 (aI_at h0 (by rw [h.len.1]; exact hx)), free_at h.h1 _⟩
theorem FS.o2 (h : FS G A c w wr p b1 b2 b3 b4 vs d) {x : Int} (h0 : 0 ≤ x) (hx : x < G.length) : wr.cell? ⟨b2, x.toNat, none⟩ = some (.int .i64 (rd d.low x)) ∧ wr.frozen? ⟨b2, x.toNat, none⟩ = false := ⟨cell_at h.h2 (aI_at h0 (by rw [h.len.2.1]; exact hx)), free_at h.h2 _⟩
theorem FS.o3 (h : FS G A c w wr p b1 b2 b3 b4 vs d) {x : Int} (h0 : 0 ≤ x) (hx : x < G.length) : wr.cell? ⟨b3, x.toNat, none⟩ = some (.bool (rdOf false d.on x)) ∧ wr.frozen? ⟨b3, x.toNat, none⟩ = false := ⟨cell_at h.h3 (aB_at h0 (by rw [h.len.2.2.1]; exact hx)), free_at h.h3 _⟩
theorem FS.o4 (h : FS G A c w wr p b1 b2 b3 b4 vs d) {x : Int} (h0 : 0 ≤ x) (hx : x < G.length) : wr.cell? ⟨b4, x.toNat, none⟩ = some (.int .i64 (rd d.comp x)) ∧ wr.frozen? ⟨b4, x.toNat, none⟩ = false := ⟨cell_at h.h4 (aI_at h0 (by rw [h.len.2.2.2]; exact hx)), free_at h.h4 _⟩
end
end Go.Proofs.Ytmlikgmcekofbaa
end

section
/- scc: enter, lower, leave. -/
set_option linter.unusedVariables false
set_option linter.unusedSimpArgs false
set_option linter.unusedSectionVars false
namespace Go.Proofs.Ytmlikgmcekofbaa
open Go.RowKit Go.Proofs.YtmlikgmcekofbaaW.PrintWords Go.Proofs.Ytmlikgmcekofbaa.PDigraphTells Mem

/-- The finder's own blocks. -/
def FT (p b1 b2 b3 b4 : Nat) (vs : Value) (k : Nat) : Prop := k = p ∨ k = b1 ∨ k = b2 ∨ k = b3 ∨ k = b4 ∨ vs.ownBlock = some k
section
variable {G : List (List Int)} {A : Option Addr} {c : Nat} {w wr : World} {p b1 b2 b3 b4 : Nat} {vs : Value} {d : FD}
set_option maxRecDepth 100000 in
set_option maxHeartbeats 2000000 in
theorem lower_any (h : FS G A c w wr p b1 b2 b3 b4 vs d) (fb : Nat) (hf : wr.heap[fb]? = some (.cells #[.pointer (some ⟨p, 0, none⟩)] 48 (0, 0))) (n : Int) (hn : 0 ≤ n) (hn2 : n < G.length) (u : Int) :
    Calls Try.prog 31 #[.int .i64 n, .int .i64 u, .pointer (some ⟨fb, 0, none⟩)] wr fun e w' => e = .returned (.tuple #[]) ∧ FS G A c w w' p b1 b2 b3 b4 vs { d with low := d.low.set n.toNat (min (rd d.low n) u) } ∧ Kp (fun k => k = b2) wr w' := by
  have f0 := cell_at (j := 0) hf rfl
  obtain ⟨c0, c1, c2, c3, c4, c5, c6, c7⟩ := h.cs
  obtain ⟨l0, l1⟩ := h.o2 hn hn2
  have hX := Aside0.mk h
  clear h hf c0 c1 c3 c4 c5 c6 c7
  go_enter Try.func31, Try.ntmps31
  go_wp2_with fail
  go_region
  have e : (if u < rd d.low n then u else rd d.low n) = min (rd d.low n) u := by split <;> omega
  go_end0
  try rw [e]
  exact ⟨rfl, (hX.out.set2 n.toNat _).step (below_drew (Below.refl _ _)), ((Kp.refl (fun k => k = b2) wr).setCell (p := ⟨b2, n.toNat, none⟩) (.inl rfl) _).drew⟩
theorem FS.ap (h : FS G A c w wr p b1 b2 b3 b4 vs d) {wa : World} {v1 : Value} {x : Int} {ok : Nat → Prop} (hR : Kd.R (Kd.int .i64) 3 wa 0 ok v1 (d.stk ++ [x])) (hg : wr.grownBy wa vs.ownBlock) (hat : v1.ownBlock = vs.ownBlock ∨ ∃ b, v1.ownBlock = some b ∧ wr.heap.size ≤ b) :
    wa.heap[p]? = wr.heap[p]? ∧ FS G A c w (wa.setCell ⟨p, 4, none⟩ v1) p b1 b2 b3 b4 v1 { d with stk := d.stk ++ [x] } := by
  obtain ⟨hO, hS⟩ := h.st
  have hb : ∀ {k : Nat} {o : Obj}, wr.heap[k]? = some o → vs.ownBlock ≠ some k → wa.heap[k]? = some o := fun {k o} hk hne => (hg.block k (blk_lt' hk) (fun e => hne e.symm)).trans hk
  have hne : vs.ownBlock ≠ some p ∧ vs.ownBlock ≠ some b1 ∧ vs.ownBlock ≠ some b2 ∧ vs.ownBlock ≠ some b3 ∧ vs.ownBlock ≠ some b4 := ⟨fun e => (hS _ e).2.1 rfl, fun e => (hS _ e).2.2.1 rfl, fun e => (hS _ e).2.2.2.1 rfl, fun e => (hS _ e).2.2.2.2.1 rfl, fun e => (hS _ e).2.2.2.2.2 rfl⟩
  have hcp := hb h.cell hne.1
  refine ⟨hcp.trans h.cell.symm, ?_⟩
  obtain ⟨n1, n2, n3, n4, n5, n6, n7, n8, n9, n10⟩ := h.ne
  have s0 := h.below.size
  have s1 := blk_lt' h.cell
  have s2 := blk_lt' h.h1
  have s3 := blk_lt' h.h2
  have s4 := blk_lt' h.h3
  have s5 := blk_lt' h.h4
  have hS' : ∀ k, v1.ownBlock = some k → w.heap.size ≤ k ∧ k ≠ p ∧ k ≠ b1 ∧ k ≠ b2 ∧ k ≠ b3 ∧ k ≠ b4 := fun k hk => by
    rcases hat with e | ⟨b, e, hge⟩
    · exact hS k (e ▸ hk)
    · rw [e] at hk
      injection hk with hk
      omega
  have hkp : Kp (fun k => vs.ownBlock = some k) wr wa := (Kp.refl _ wr).grown hg (fun k hk => .inl hk)
  refine ⟨by rw [set_at hcp]; rfl, (set_other _ n1.symm).trans (hb h.h1 hne.2.1), (set_other _ n2.symm).trans (hb h.h2 hne.2.2.1), (set_other _ n3.symm).trans (hb h.h3 hne.2.2.2.1), (set_other _ n4.symm).trans (hb h.h4 hne.2.2.2.2),
    ⟨own_move (Kd.own_of_R hR) (fun k hk => set_other _ (hS' k hk).2.1), hS'⟩, h.ne, h.ge, h.below.trans ((hkp.mono (S' := fun k => w.heap.size ≤ k) (fun k hk => (hS k hk).1)).setCell (p := ⟨p, 4, none⟩) (.inl h.ge.1) _ |>.belowB (fun k hk => hk) h.below.size), h.len⟩
theorem own_of (h : wr.ownsRow 0 3 1 vs d.stk.length (encs (Value.int .i64) d.stk)) (ok : Nat → Prop) (hok : ∀ k, vs.ownBlock = some k → ok k) : Kd.R (Kd.int .i64) 3 wr 0 ok vs d.stk := Kd.R_of_own (h1 := fun _ => rfl) h hok
set_option maxRecDepth 100000 in
set_option maxHeartbeats 4000000 in
theorem enter_any (h : FS G A c w wr p b1 b2 b3 b4 vs d) (n : Int) (hn : 0 ≤ n) (hn2 : n < G.length) (hx : 0 ≤ d.nxt ∧ d.nxt < 1000000) (hs : d.stk.length < 1000000) :
    Calls Try.prog 32 #[.pointer (some ⟨p, 0, none⟩), .int .i64 n] wr fun e w' => e = .returned (.agg #[.int .i64 n, .int .i64 0]) ∧ ∃ vs', FS G A c w w' p b1 b2 b3 b4 vs' { d with nxt := d.nxt + 1, ord := d.ord.set n.toNat (d.nxt + 1), low := d.low.set n.toNat (d.nxt + 1), stk := d.stk ++ [n], on := d.on.set n.toNat true } ∧ Kp (FT p b1 b2 b3 b4 vs) wr w' := by
  have hw : wrap64 (d.nxt + 1) = d.nxt + 1 := by unfold wrap64; omega
  have hA : FS G A c w (wr.alloc (.cells #[.int .i64 0, .int .i64 0] 58)) p b1 b2 b3 b4 vs d := h.step (below_alloc (Below.refl _ _) _)
  have hlt := blk_lt' h.cell
  obtain ⟨c0, c1, c2, c3, c4, c5, c6, c7⟩ := hA.cs
  have f7 := free_at hA.cell 7
  have hX := Aside0.mk (And.intro hA h)
  clear h hA c0 c1 c2 c3 c4 c5 c6
  go_enter Try.func32, Try.ntmps32
  go_wp2_with fail
  have hB : FS G A c w ((wr.setCell ⟨p, 7, none⟩ (.int .i64 (d.nxt + 1))).alloc (.cells #[.int .i64 0, .int .i64 0] 58)) p b1 b2 b3 b4 vs { d with nxt := d.nxt + 1 } := (hX.out.2.setNxt (d.nxt + 1)).step (below_alloc (Below.refl _ _) _)
  have hkB : Kp (FT p b1 b2 b3 b4 vs) wr ((wr.setCell ⟨p, 7, none⟩ (.int .i64 (d.nxt + 1))).alloc (.cells #[.int .i64 0, .int .i64 0] 58)) := ((Kp.refl _ wr).setCell (p := ⟨p, 7, none⟩) (.inl (.inl rfl)) _).alloc _
  have hrB : ((wr.setCell ⟨p, 7, none⟩ (.int .i64 (d.nxt + 1))).alloc (.cells #[.int .i64 0, .int .i64 0] 58)).heap[wr.heap.size]? = some (.cells #[.int .i64 0, .int .i64 0] 58 (0, 0)) := by
    have := heap_alloc_new (wr.setCell ⟨p, 7, none⟩ (.int .i64 (d.nxt + 1))) (.cells #[.int .i64 0, .int .i64 0] 58)
    simpa using this
  obtain ⟨W, hW⟩ : ∃ W, (wr.setCell ⟨p, 7, none⟩ (.int .i64 (d.nxt + 1))).alloc (.cells #[.int .i64 0, .int .i64 0] 58) = W := ⟨_, rfl⟩
  rw [hW] at hB hkB hrB ⊢
  obtain ⟨q, hq⟩ : ∃ q, wr.heap.size = q := ⟨_, rfl⟩
  rw [hq] at hlt hrB ⊢
  clear hW c7 f7
  obtain ⟨c0, c1, c2, c3, c4, c5, c6, c7⟩ := hB.cs
  obtain ⟨o1, g1⟩ := hB.o1 hn hn2
  obtain ⟨o2, g2⟩ := hB.o2 hn hn2
  have hB1 := hB.set1 n.toNat (d.nxt + 1)
  have hC := (hB1.set2 n.toNat (d.nxt + 1)).step (below_drew1 (Below.refl _ _))
  have hkC : Kp (FT p b1 b2 b3 b4 vs) wr ((W.setCell ⟨b1, n.toNat, none⟩ (.int .i64 (d.nxt + 1))).setCell ⟨b2, n.toNat, none⟩ (.int .i64 (d.nxt + 1))).drew := ((hkB.setCell (p := ⟨b1, n.toNat, none⟩) (.inl (.inr (.inl rfl))) _).setCell (p := ⟨b2, n.toNat, none⟩) (.inl (.inr (.inr (.inl rfl)))) _).drew
  have hqC : ((W.setCell ⟨b1, n.toNat, none⟩ (.int .i64 (d.nxt + 1))).setCell ⟨b2, n.toNat, none⟩ (.int .i64 (d.nxt + 1))).drew.heap[q]? = some (.cells #[.int .i64 0, .int .i64 0] 58 (0, 0)) := by
    have l1 := blk_lt' hX.out.2.h1
    have l2 := blk_lt' hX.out.2.h2
    exact (set_other _ (by omega)).trans ((set_other _ (by omega)).trans hrB)
  obtain ⟨e0, e1, e2, e3, e4, e5, e6, e7⟩ := hB1.cs
  obtain ⟨o3, g3⟩ := hB1.o2 hn hn2
  have k4 := hC.cs.2.2.2.2.1
  have hR0 := Aside0.mk (And.intro hC (And.intro hkC (And.intro hqC (show wr.heap.size = q ∧ vs.ownBlock ≠ some q from ⟨hq, fun e => by have := own_lt hX.out.2.st.1 q e; omega⟩))))
  clear c0 c3 c4 c5 c6 e0 e3 e4 e5 e6 hC hkC hB hkB hrB hB1 hqC hlt
  go_wp2_with fail
  go_region
  obtain ⟨W2, hW2⟩ : ∃ W2, ((W.setCell ⟨b1, n.toNat, none⟩ (.int .i64 (d.nxt + 1))).setCell ⟨b2, n.toNat, none⟩ (.int .i64 (d.nxt + 1))).drew = W2 := ⟨_, rfl⟩
  rw [hW2] at hR0 k4 ⊢
  clear hW2 c1 c2 c7 o1 g1 o2 g2 e1 e2 e7 o3 g3
  have hn2' := Aside0.mk hn2
  have e9 : (d.stk ++ [n]).length = d.stk.length + 1 := by simp
  go_wp2_with (at_builtin; refine Kd.R_append (Kd.int .i64) (w0 := W2) 0 (by rfl) (.tmp 36) (.tmp 38) 29 3 (.int .i64 0) 8 (by rfl) Try.underlying29 info3 rfl (by decide) (by decide) vs d.stk n [.int .i64 n] (fun k => vs.ownBlock = some k ∨ W2.heap.size ≤ k) (fun _ => False) (by rfl) (by rfl) rfl (fun _ h => h.elim) (fun k hk => .inr hk) (own_of (d := d) hR0.out.1.st.1 _ (fun k hk => .inl hk)) ((Kp.refl (fun _ => False) W2).belowB (fun _ h => h.elim) (Nat.zero_le _)) (Nat.zero_le _) (by omega) ?_; intro v1 wa hRA hBA hgA hatA; obtain ⟨A1, k1, hv, _, _⟩ := Kd.R_reads hRA; rw [e9] at hv; subst hv; obtain ⟨hpA, hE⟩ := hR0.out.1.ap hRA hgA hatA; have x4 := free_at (hpA.trans hR0.out.1.cell) 4; have y4 := cell_at (j := 4) (hpA.trans hR0.out.1.cell) rfl; obtain ⟨x0, x1, x2, x3, x5, x6, x7, x8⟩ := hE.cs; obtain ⟨z0, z1⟩ := hE.o3 hn hn2'.out; have hq1 : ((wa.setCell ⟨p, 4, none⟩ (.slice A1 (d.stk.length + 1) k1)).setCell ⟨b3, n.toNat, none⟩ (.bool true)).heap[q]? = some (.cells #[.int .i64 0, .int .i64 0] 58 (0, 0)) := (set_other _ (by have := blk_lt' hX.out.2.h3; have := hR0.out.2.2.2.1; omega)).trans ((set_other _ (by have := blk_lt' hX.out.2.cell; have := hR0.out.2.2.2.1; omega)).trans ((hgA.block q (blk_lt' hR0.out.2.2.1) (fun e => hR0.out.2.2.2.2 e.symm)).trans hR0.out.2.2.1)); have q0 := cell_at (j := 0) hq1 rfl; have q1 := cell_at (j := 1) hq1 rfl; have r0 := free_at hq1 0; have r1 := free_at hq1 1; have hA2 := Aside0.mk (And.intro hE (And.intro hgA hatA)); clear hRA hBA hatA hE hpA hgA x0 x1 x2 x5 x6 x7 x8 hq1)
  have hqn : q ≠ p ∧ q ≠ b1 ∧ q ≠ b2 ∧ q ≠ b3 ∧ q ≠ b4 ∧ w.heap.size ≤ q := by
    have l0 := blk_lt' hX.out.2.cell
    have l1 := blk_lt' hX.out.2.h1
    have l2 := blk_lt' hX.out.2.h2
    have l3 := blk_lt' hX.out.2.h3
    have l4 := blk_lt' hX.out.2.h4
    have l5 := hX.out.2.below.size
    have := hR0.out.2.2.2.1
    omega
  have hlt2 := blk_lt' hR0.out.2.2.1
  have hF := hA2.out.1.set3 n.toNat true
  have hK : Kp (FT p b1 b2 b3 b4 vs) wr ((wa.setCell ⟨p, 4, none⟩ (.slice A1 (d.stk.length + 1) k1)).setCell ⟨b3, n.toNat, none⟩ (.bool true)) :=
    ((hR0.out.2.1.grown hA2.out.2.1 (fun k hk => .inl (.inr (.inr (.inr (.inr (.inr hk))))))).setCell (p := ⟨p, 4, none⟩) (.inl (.inl rfl)) _).setCell (p := ⟨b3, n.toNat, none⟩) (.inl (.inr (.inr (.inr (.inl rfl))))) _
  have hq9 : (((wa.setCell ⟨p, 4, none⟩ (.slice A1 (d.stk.length + 1) k1)).setCell ⟨b3, n.toNat, none⟩ (.bool true))).heap[q]? = some (.cells #[.int .i64 0, .int .i64 0] 58 (0, 0)) :=
    (set_other _ hqn.2.2.2.1).trans ((set_other _ hqn.1).trans ((hA2.out.2.1.block q hlt2 (fun e => hR0.out.2.2.2.2 e.symm)).trans hR0.out.2.2.1))
  obtain ⟨W3, hW3⟩ : ∃ W3, ((wa.setCell ⟨p, 4, none⟩ (.slice A1 (d.stk.length + 1) k1)).setCell ⟨b3, n.toNat, none⟩ (.bool true)) = W3 := ⟨_, rfl⟩
  rw [hW3] at hF hK hq9 ⊢
  have hat : ∀ k, (Value.slice A1 (d.stk.length + 1) k1).ownBlock = some k → k ≠ q := fun k hk e => by
    rcases hA2.out.2.2 with e1 | ⟨b, e1, hge⟩
    · exact hR0.out.2.2.2.2 (by rw [← e1, hk, e])
    · rw [e1] at hk; injection hk with hk; omega
  have hq8 : ((W3.setCell ⟨q, 0, none⟩ (.int .i64 n)).setCell ⟨q, 1, none⟩ (.int .i64 0)).heap[q]? = some (.cells #[.int .i64 n, .int .i64 0] 58 (0, 0)) := by
    rw [set_at (set_at hq9 _)]; rfl
  have hfin : ∃ vs', FS G A c w ((W3.setCell ⟨q, 0, none⟩ (.int .i64 n)).setCell ⟨q, 1, none⟩ (.int .i64 0)) p b1 b2 b3 b4 vs' { d with nxt := d.nxt + 1, ord := d.ord.set n.toNat (d.nxt + 1), low := d.low.set n.toNat (d.nxt + 1), stk := d.stk ++ [n], on := d.on.set n.toNat true } ∧ Kp (FT p b1 b2 b3 b4 vs) wr ((W3.setCell ⟨q, 0, none⟩ (.int .i64 n)).setCell ⟨q, 1, none⟩ (.int .i64 0)) :=
    ⟨_, hF.apart (T := fun k => k = q) (((Kp.refl (fun k => k = q) W3).setCell (p := ⟨q, 0, none⟩) (.inl rfl) _).setCell (p := ⟨q, 1, none⟩) (.inl rfl) _) (fun k hk => by subst hk; exact ⟨hqn.2.2.2.2.2, hqn.1, hqn.2.1, hqn.2.2.1, hqn.2.2.2.1, hqn.2.2.2.2.1⟩) (fun k hk e => hat k hk e),
      (hK.setCell (p := ⟨q, 0, none⟩) (.inr (Nat.le_of_eq hR0.out.2.2.2.1)) _).setCell (p := ⟨q, 1, none⟩) (.inr (Nat.le_of_eq hR0.out.2.2.2.1)) _⟩
  have m0 := cell_at (j := 0) hq8 rfl
  have m1 := cell_at (j := 1) hq8 rfl
  have hfin' := Aside0.mk hfin
  clear hX hR0 hA2 hF hK hq9 hat hfin hW3 q0 q1 r0 r1 x4 y4 z0 z1 x3 hqn hlt2 k4
  refine bodyPost_ret (results_cell_row rfl _ _ q 58 #[.int .i64 n, .int .i64 0] (0, 0) _ rfl hq8 Try.underlying58 rfl (by kernel_rfl)) rfl ?_
  obtain ⟨v9, h1, h2⟩ := hfin'.out
  exact ⟨rfl, ⟨v9, h1⟩, h2⟩
end
end Go.Proofs.Ytmlikgmcekofbaa
end

section
/- scc: leave. -/
set_option linter.unusedVariables false
set_option linter.unusedSimpArgs false
set_option linter.unusedSectionVars false
namespace Go.Proofs.Ytmlikgmcekofbaa
open Go.RowKit Go.Proofs.YtmlikgmcekofbaaW.PrintWords Go.Proofs.Ytmlikgmcekofbaa.PDigraphTells Mem

/-- The row l with v at the places of P. -/
def putAll {α : Type} (l : List α) (P : List Int) (v : α) : List α := P.foldl (fun l x => l.set x.toNat v) l
theorem putAll_snoc {α : Type} (l : List α) (P : List Int) (x : Int) (v : α) : putAll l (P ++ [x]) v = (putAll l P v).set x.toNat v := by simp [putAll]
theorem putAll_len {α : Type} (v : α) : ∀ (P : List Int) (l : List α), (putAll l P v).length = l.length
  | [], _ => rfl
  | x :: P, l => by
    show (putAll (l.set x.toNat v) P v).length = _
    rw [putAll_len v P]; simp
section
variable {G : List (List Int)} {A : Option Addr} {c : Nat} {w wr : World} {p b1 b2 b3 b4 : Nat} {vs : Value} {d : FD}
theorem FS.form (h : FS G A c w wr p b1 b2 b3 b4 vs d) {ys : List Int} {x : Int} (e : d.stk = ys ++ [x]) : ∃ g cc, vs = .slice (some ⟨g, 0, none⟩) (ys.length + 1) cc ∧ ys.length + 1 ≤ cc ∧ wr.cell? ⟨g, ys.length, none⟩ = some (.int .i64 x) := by
  have hR := own_of h.st.1 (fun _ => True) (fun _ _ => trivial)
  rw [e] at hR
  obtain ⟨g, cc, e1, _⟩ := Kd.R_form hR (by simp)
  subst e1
  have el : (ys ++ [x]).length = ys.length + 1 := by simp
  obtain ⟨A1, c1, e2, hle, _⟩ := Kd.R_reads hR
  injection e2 with _ _ e3
  obtain ⟨h1, _⟩ := Kd.R_cell (0 : Int) hR (ys.length : Int) (by omega) (by rw [el]; omega)
  rw [el] at hle
  refine ⟨g, cc, by rw [el], by omega, ?_⟩
  have h2 : rdOf 0 (ys ++ [x]) (ys.length : Int) = x := by simp [rdOf]
  rw [h2, Int.toNat_natCast] at h1
  exact h1
theorem FS.cut (h : FS G A c w wr p b1 b2 b3 b4 vs d) {ys : List Int} {x : Int} {g cc : Nat} (e : d.stk = ys ++ [x]) (hv : vs = .slice (some ⟨g, 0, none⟩) (ys.length + 1) cc) : FS G A c w (wr.setCell ⟨p, 4, none⟩ (.slice (some ⟨g, 0, none⟩) ys.length cc)) p b1 b2 b3 b4 (.slice (some ⟨g, 0, none⟩) ys.length cc) { d with stk := ys } := by
  subst hv
  have hR := own_of h.st.1 (fun _ => True) (fun _ _ => trivial)
  rw [e] at hR
  have h2 := Kd.R_take (m := ys.length) hR (by simp)
  rw [List.take_left'] at h2
  · exact h.setF 4 _ _ _ rfl ⟨Kd.own_of_R h2, fun k hk => h.st.2 k (by simpa [Value.ownBlock] using hk)⟩ ⟨rfl, rfl, rfl, rfl⟩
  · rfl
/-- What leave does to what the finder holds: R, the last first, is taken from the stack. -/
def FD.off (d : FD) (L R : List Int) : FD := { d with stk := L, on := putAll d.on R false, comp := putAll d.comp R d.cnt, cnt := d.cnt }
set_option maxRecDepth 100000 in
set_option maxHeartbeats 4000000 in
theorem leave_any (h : FS G A c w wr p b1 b2 b3 b4 vs d) (n : Int) (hn : isNode G n) (L U : List Int) (hL : d.stk = L ++ n :: U) (hU : ∀ x ∈ U, isNode G x ∧ x ≠ n) (hl : d.stk.length < 1000000) (hc : 0 ≤ d.cnt ∧ d.cnt < 1000000) (d' : FD) (hd : d' = if rd d.low n = rd d.ord n then { d.off L (n :: U).reverse with cnt := d.cnt + 1 } else d) :
    Calls Try.prog 33 #[.pointer (some ⟨p, 0, none⟩), .int .i64 n] wr fun e w' => e = .returned (.tuple #[]) ∧ ∃ vs', FS G A c w w' p b1 b2 b3 b4 vs' d' ∧ Kp (FT p b1 b2 b3 b4 vs) wr w' := by
  have hn1 := hn.1
  have hn2 := hn.2
  obtain ⟨c0, c1, c2, c3, c4, c5, c6, c7⟩ := h.cs
  obtain ⟨o1, g1⟩ := h.o1 hn1 hn2
  obtain ⟨o2, g2⟩ := h.o2 hn1 hn2
  have hX := Aside0.mk (And.intro h (And.intro hL (And.intro hU hn)))
  have hD := Aside0.mk hd
  clear h hL hU hd c0 c3 c4 c5 c6 c7 hn g1 g2
  go_enter Try.func33, Try.ntmps33
  by_cases hlo : rd d.low n = rd d.ord n
  · have d1 : (rd d.low n != rd d.ord n) = false := by simp [hlo]
    have hD2 : d' = { d.off L (n :: U).reverse with cnt := d.cnt + 1 } := by rw [hD.out, if_pos hlo]
    have hD3 := Aside0.mk hD2
    clear hlo hD2 hD
    go_wp2_with fail
    go_quiet (fail)
    go_wp2_with fail
    obtain ⟨V0, hV0⟩ : ∃ V, wr.drewN nq = V := ⟨_, rfl⟩
    have hS0 : Aside0 (FS G A c w V0 p b1 b2 b3 b4 vs (d.off (L ++ n :: U) []) ∧ Kp (FT p b1 b2 b3 b4 vs) wr V0) := by
      subst hV0
      have h1 := hX.out.1.step (below_drewN (Below.refl _ wr) nq)
      have e : d.off (L ++ n :: U) [] = d := by unfold FD.off putAll; rw [← hX.out.2.1]; rfl
      rw [e]
      exact ⟨h1, (Kp.refl _ wr).drewN nq⟩
    rw [hV0]
    clear hV0 c1 c2 o1 o2 d1
    have hUl := Aside0.mk (show (L ++ n :: U).length < 1000000 by rw [← hX.out.2.1]; exact hl)
    clear hl
    replace hX : Aside0 (d.stk = L ++ n :: U ∧ (∀ x ∈ U, isNode G x ∧ x ≠ n) ∧ isNode G n) := ⟨hX.out.2⟩
    obtain ⟨w9, rfl⟩ : ∃ w9 : World, w9 = wr := ⟨_, rfl⟩
    go_loopg [] U.length (fun q wi => ∃ (R P : List Int) (vs' : Value), R.length = q ∧ Aside0 (U = R ++ P ∧ FS G A c w wi p b1 b2 b3 b4 vs' (d.off (L ++ n :: R) P.reverse) ∧ Kp (FT p b1 b2 b3 b4 vs) w9 wi ∧ ∀ k, vs'.ownBlock = some k → vs.ownBlock = some k))
    case atStart => exact ⟨U, [], vs, rfl, ⟨by simp, hS0.out.1, hS0.out.2, fun _ h => h⟩⟩
    case round =>
      obtain ⟨R, P, vs', hR, hJ⟩ := hrel
      clear hS0
      obtain ⟨ys, x, hyx, hcase⟩ : ∃ ys x, L ++ n :: R = ys ++ [x] ∧ ((x = n ∧ R = [] ∧ ys = L) ∨ (x ≠ n ∧ ∃ R', R = R' ++ [x] ∧ ys = L ++ n :: R')) := by
        rcases List.eq_nil_or_concat R with rfl | ⟨R', x, rfl⟩
        · exact ⟨L, n, rfl, .inl ⟨rfl, rfl, rfl⟩⟩
        · refine ⟨L ++ n :: R', x, by simp, .inr ⟨?_, R', by simp, rfl⟩⟩
          exact (hX.out.2.1 x (by rw [hJ.out.1]; simp)).2
      have hxn : isNode G x := by
        rcases hcase with ⟨rfl, _⟩ | ⟨_, R', rfl, _⟩
        · exact hX.out.2.2
        · exact (hX.out.2.1 x (by rw [hJ.out.1]; simp)).1
      have hx1 := hxn.1
      have hx2 := hxn.2
      obtain ⟨g, cc, hv, hcc, t0⟩ := hJ.out.2.1.form (ys := ys) (x := x) hyx
      subst hv
      have hyl : ys.length < 1000000 := by
        have h1 : (ys ++ [x]).length ≤ (L ++ n :: U).length := by rw [← hyx, hJ.out.1]; simp <;> omega
        have h2 := hUl.out; simp at h1 h2; omega
      obtain ⟨c0, c1, c2, c3, c4, c5, c6, c7⟩ := hJ.out.2.1.cs
      have f4 := free_at hJ.out.2.1.cell 4
      clear c0 c1 c2 c3 c5 c6 c7
      have hw1 : wrap64 (ys.length : Int) = (ys.length : Int) := by unfold wrap64; omega
      obtain ⟨m, hm⟩ : ∃ m, ys.length = m := ⟨_, rfl⟩
      rw [hm] at hw1 hyl hcc t0 c4
      have hC := Aside0.mk (And.intro hcase (And.intro hyx (And.intro hm hR)))
      have hm0 : m < 1000000 := hyl
      clear hcase hyx hm hR hyl hxn
      go_wp2_with fail
      go_quiet (fail)
      obtain ⟨V, hV⟩ : ∃ V, wr.drewN nq = V := ⟨_, rfl⟩
      have hJ1 : FS G A c w V p b1 b2 b3 b4 (.slice (some ⟨g, 0, none⟩) (m + 1) cc) (d.off (L ++ n :: R) P.reverse) := by
        rw [← hV, ← hC.out.2.2.1]; exact hJ.out.2.1.step (below_drewN (Below.refl _ wr) nq)
      have hK1 : Kp (FT p b1 b2 b3 b4 vs) w9 V := by
        rw [← hV]; exact hJ.out.2.2.1.drewN nq
      rw [hV]
      have hJ2 := hJ1.cut (ys := ys) (x := x) (cc := cc) hC.out.2.1 (by rw [hC.out.2.2.1])
      rw [hC.out.2.2.1] at hJ2
      have hJ3 := hJ2.set3 x.toNat false
      have hJ4 := hJ3.set4 x.toNat d.cnt
      have hK4 : Kp (FT p b1 b2 b3 b4 vs) w9 (((V.setCell ⟨p, 4, none⟩ (.slice (some ⟨g, 0, none⟩) m cc)).setCell ⟨b3, x.toNat, none⟩ (.bool false)).setCell ⟨b4, x.toNat, none⟩ (.int .i64 d.cnt)) :=
        ((hK1.setCell (p := ⟨p, 4, none⟩) (.inl (.inl rfl)) _).setCell (p := ⟨b3, x.toNat, none⟩) (.inl (.inr (.inr (.inr (.inl rfl))))) _).setCell (p := ⟨b4, x.toNat, none⟩) (.inl (.inr (.inr (.inr (.inr (.inl rfl)))))) _
      obtain ⟨a0, a1, a2, a3, a4, a5, a6, a7⟩ := hJ1.cs
      have e4 := free_at hJ1.cell 4
      obtain ⟨k0, k1, k2, k3, k4, k5, k6, k7⟩ := hJ2.cs
      obtain ⟨o3, g3⟩ := hJ2.o3 hx1 hx2
      obtain ⟨l0, l1, l2, l3, l4, l5, l6, l7⟩ := hJ3.cs
      obtain ⟨o4, g4⟩ := hJ3.o4 hx1 hx2
      have l6' : ((V.setCell ⟨p, 4, none⟩ (.slice (some ⟨g, 0, none⟩) m cc)).setCell ⟨b3, x.toNat, none⟩ (.bool false)).cell? ⟨p, 6, none⟩ = some (.int .i64 d.cnt) := l6
      have hJ5 := Aside0.mk (And.intro hJ4 hK4)
      clear hJ1 hJ2 hJ3 hJ4 hK4 hK1 hV c4 t0 f4 a0 a1 a2 a3 a5 a6 a7 k0 k1 k2 k4 k5 k6 k7 l0 l1 l2 l3 l4 l6 l7
      go_wp2_with fail
      go_region
      go_wp2_with fail
      go_region
      obtain ⟨X, hX9⟩ : ∃ X, (((V.setCell ⟨p, 4, none⟩ (.slice (some ⟨g, 0, none⟩) m cc)).setCell ⟨b3, x.toNat, none⟩ (.bool false)).setCell ⟨b4, x.toNat, none⟩ (.int .i64 d.cnt)).drew.drew = X := ⟨_, rfl⟩
      have hJ6 : Aside0 (FS G A c w X p b1 b2 b3 b4 (.slice (some ⟨g, 0, none⟩) m cc) (d.off ys (x :: P).reverse) ∧ Kp (FT p b1 b2 b3 b4 vs) w9 X) := by
        refine ⟨?_, by rw [← hX9]; exact hJ5.out.2.drew.drew⟩
        have h1 := hJ5.out.1.step (W := X) (by rw [← hX9]; exact below_drew1 (below_drew1 (Below.refl _ _)))
        have h2 : d.off ys (x :: P).reverse = { d.off (L ++ n :: R) P.reverse with stk := ys, on := (d.off (L ++ n :: R) P.reverse).on.set x.toNat false, comp := (d.off (L ++ n :: R) P.reverse).comp.set x.toNat d.cnt } := by
          unfold FD.off
          simp only [List.reverse_cons, putAll_snoc]
        rw [h2]
        exact h1
      rw [hX9]
      clear hJ5 hX9 e4 a4 k3 o3 g3 o4 g4 l5 l6'
      rcases hC.out.1 with ⟨hx, hR0, hy0⟩ | ⟨hx, R', hR0, hy0⟩
      · have h0 : d' = { d.off L (x :: P).reverse with cnt := d.cnt + 1 } := by rw [hD3.out, hJ.out.1, hR0, hx]; rfl
        have hJ7 : Aside0 (FS G A c w X p b1 b2 b3 b4 (.slice (some ⟨g, 0, none⟩) m cc) (d.off L (x :: P).reverse) ∧ Kp (FT p b1 b2 b3 b4 vs) w9 X) := by rw [← hy0]; exact hJ6
        have d2 : (x == n) = true := by simp [hx]
        have hw2 : wrap64 (d.cnt + 1) = d.cnt + 1 := by unfold wrap64; omega
        obtain ⟨_, _, _, _, _, _, c6, _⟩ := hJ7.out.1.cs
        have c6' : X.cell? ⟨p, 6, none⟩ = some (.int .i64 d.cnt) := c6
        have f6 := free_at hJ7.out.1.cell 6
        have hF : ∃ vs', FS G A c w (X.setCell ⟨p, 6, none⟩ (.int .i64 (d.cnt + 1))) p b1 b2 b3 b4 vs' d' ∧ Kp (FT p b1 b2 b3 b4 vs) w9 (X.setCell ⟨p, 6, none⟩ (.int .i64 (d.cnt + 1))) := by
          rw [h0]
          exact ⟨_, hJ7.out.1.setCnt (d.cnt + 1), hJ7.out.2.setCell (p := ⟨p, 6, none⟩) (.inl (.inl rfl)) _⟩
        have hF' := Aside0.mk hF
        clear hF hJ6 hJ7 h0 c6 hR0 hy0 hJ hC hX hD3
        go_wp2_with fail
        go_end0
        exact ⟨rfl, hF'.out⟩
      · have d2 : (x == n) = false := by simp [hx]
        obtain ⟨gk1, rfl⟩ : ∃ q, gk = q + 1 := ⟨R'.length, by rw [← hC.out.2.2.2, hR0]; simp⟩
        have hg9 : R'.length = gk1 := by have := hC.out.2.2.2; rw [hR0] at this; simpa using this
        have hE : Aside0 (U = R' ++ (x :: P) ∧ FS G A c w X p b1 b2 b3 b4 (.slice (some ⟨g, 0, none⟩) m cc) (d.off (L ++ n :: R') (x :: P).reverse) ∧ Kp (FT p b1 b2 b3 b4 vs) w9 X ∧ ∀ k, (Value.slice (some ⟨g, 0, none⟩) m cc).ownBlock = some k → vs.ownBlock = some k) := by
          refine ⟨by rw [hJ.out.1, hR0]; simp, by rw [← hy0]; exact hJ6.out.1, hJ6.out.2, fun k hk => hJ.out.2.2.2 k hk⟩
        have hgk : gk1 < gk1 + 1 := by omega
        clear hJ6 hJ hC hR0 hy0 hx
        go_wp2_with fail
        go_roundg gk1
        case rel => exact ⟨R', x :: P, _, hg9, hE⟩
        case measure => exact hgk
  · have d1 : (rd d.low n != rd d.ord n) = true := by simp [hlo]
    have hD2 : d' = d := by rw [hD.out, if_neg hlo]
    subst hD2
    clear hlo hD
    go_wp2_with fail
    go_quiet (fail)
    have hF : ∃ vs', FS G A c w (wr.drewN nq) p b1 b2 b3 b4 vs' d' ∧ Kp (FT p b1 b2 b3 b4 vs) wr (wr.drewN nq) := ⟨vs, hX.out.1.step (below_drewN (Below.refl _ wr) nq), (Kp.refl _ wr).drewN nq⟩
    go_wp2
    refine bodyPost_ret (results_none rfl _ _ _) rfl ?_
    exact ⟨rfl, hF⟩
end
end Go.Proofs.Ytmlikgmcekofbaa
end

section
/- What the finder holds, and Tarjan's invariant: the steps of the search on the finder's rows. -/
set_option linter.unusedVariables false
set_option linter.unusedSimpArgs false
set_option linter.unusedSectionVars false
namespace Go.Proofs.Ytmlikgmcekofbaa
open Go.RowKit Go.Proofs.YtmlikgmcekofbaaW.PrintWords Go.Proofs.Ytmlikgmcekofbaa.PDigraphTells Mem

/-- A row as a table. -/
def tb (l : List Int) (x : Int) : Int := if 0 ≤ x then l.getD x.toNat 0 else 0
theorem tb_rd {l : List Int} {x : Int} (h0 : 0 ≤ x) (h : x < l.length) : tb l x = rd l x := by
  have h1 : x.toNat < l.length := by omega
  have h2 : rd l x = l[x.toNat] := by rw [← rd_get l x.toNat h1, Int.toNat_of_nonneg h0]
  unfold tb; rw [if_pos h0, h2]; simp [h1]
theorem tb_set {l : List Int} {s : Int} (h0 : 0 ≤ s) (h : s < l.length) (v : Int) : tb (l.set s.toNat v) = Grf.Tj.put (tb l) s v := by
  funext x
  unfold tb Grf.Tj.put
  by_cases e : x = s
  · subst e
    rw [if_pos h0, if_pos rfl]
    have h1 : x.toNat < l.length := by omega
    simp [h1]
  · rw [if_neg e]
    show (if 0 ≤ x then (l.set s.toNat v).getD x.toNat 0 else 0) = if 0 ≤ x then l.getD x.toNat 0 else 0
    by_cases hx : 0 ≤ x
    · rw [if_pos hx, if_pos hx]
      have h1 : s.toNat ≠ x.toNat := by omega
      simp [List.getD_eq_getElem?_getD, List.getElem?_set_ne h1]
    · rw [if_neg hx, if_neg hx]
theorem rdB_set {l : List Bool} {s x : Int} (h0 : 0 ≤ s) (h : s < l.length) (hx : 0 ≤ x) (v : Bool) : rdOf false (l.set s.toNat v) x = if x = s then v else rdOf false l x := by
  unfold rdOf
  by_cases e : x = s
  · subst e
    have h1 : x.toNat < l.length := by omega
    simp [hx, h1]
  · rw [if_neg e]
    have h1 : s.toNat ≠ x.toNat := by omega
    simp [hx, List.getD_eq_getElem?_getD, List.getElem?_set_ne h1]
theorem tb_all {v : Int} : ∀ (P : List Int) (l : List Int), (∀ x ∈ P, 0 ≤ x ∧ x < l.length) → ∀ x, tb (putAll l P v) x = if x ∈ P then v else tb l x
  | [], l, _, x => by simp [putAll]
  | s :: P, l, h, x => by
    have hs := h s List.mem_cons_self
    show tb (putAll (l.set s.toNat v) P v) x = _
    rw [tb_all P _ (fun y hy => by simpa using h y (List.mem_cons_of_mem _ hy)) x, tb_set hs.1 hs.2]
    unfold Grf.Tj.put
    by_cases e : x = s
    · subst e; simp
    · by_cases hP : x ∈ P <;> simp [e, hP]
theorem rdB_all {v : Bool} : ∀ (P : List Int) (l : List Bool), (∀ x ∈ P, 0 ≤ x ∧ x < l.length) → ∀ x, 0 ≤ x → rdOf false (putAll l P v) x = if x ∈ P then v else rdOf false l x
  | [], l, _, x, _ => by simp [putAll]
  | s :: P, l, h, x, hx => by
    have hs := h s List.mem_cons_self
    show rdOf false (putAll (l.set s.toNat v) P v) x = _
    rw [rdB_all P _ (fun y hy => by simpa using h y (List.mem_cons_of_mem _ hy)) x hx, rdB_set hs.1 hs.2 hx]
    by_cases e : x = s
    · subst e; simp
    · by_cases hP : x ∈ P <;> simp [e, hP]

theorem cnt_mark_le (m : Grf.Met) (s : Int) : ∀ (V : List Int), V.Nodup → Grf.cnt V m ≤ Grf.cnt V (Grf.mark m s) + 1
  | [], _ => by simp [Grf.cnt]
  | a :: V, h => by
    obtain ⟨h1, h2⟩ := List.nodup_cons.1 h
    have ih := cnt_mark_le m s V h2
    unfold Grf.cnt at ih ⊢
    by_cases e : a = s
    · subst e
      have h3 : V.filter (fun x => !Grf.mark m a x) = V.filter (fun x => !m x) := List.filter_congr (fun x hx => by
        have : x ≠ a := fun e => h1 (e ▸ hx)
        simp [Grf.mark, this])
      have h4 : Grf.mark m a a = true := (Grf.mark_iff m a a).2 (.inl rfl)
      rw [List.filter_cons, List.filter_cons, h4, h3]
      split <;> simp
    · have h4 : Grf.mark m s a = m a := by simp [Grf.mark, e]
      rw [List.filter_cons, List.filter_cons, h4]
      split
      · simp only [List.length_cons]; omega
      · exact ih
def visd (d : FD) : Grf.Met := fun x => decide (tb d.ord x ≠ 0)
structure TI (G : List (List Int)) (d : FD) (C : List (Int × Nat)) (ct nx : Nat) : Prop where
  inv : Grf.Tj.Inv (adj G) (nodes G) (tb d.ord) (tb d.low) d.stk.reverse C (tb d.comp) ct nx
  on : ∀ x, isNode G x → (rdOf false d.on x = true ↔ x ∈ d.stk)
  hc : d.cnt = ct
  hn : d.nxt = nx
  len : d.ord.length = G.length ∧ d.low.length = G.length ∧ d.on.length = G.length ∧ d.comp.length = G.length
  cn : nx + Grf.cnt (nodes G) (visd d) = G.length
  ce : ct + d.stk.length ≤ nx
section
variable {G : List (List Int)} {d : FD} {C : List (Int × Nat)} {ct nx : Nat}
theorem TI.stkN (h : TI G d C ct nx) {x : Int} (hx : x ∈ d.stk) : isNode G x := (mem_nodes G x).1 (h.inv.ordV x (h.inv.sv x (List.mem_reverse.2 hx)))
theorem TI.callN (h : TI G d C ct nx) {c : Int × Nat} (hc : c ∈ C) : isNode G c.1 := h.stkN (List.mem_reverse.1 (h.inv.cs c hc))
theorem TI.rdO (h : TI G d C ct nx) {x : Int} (hx : isNode G x) : tb d.ord x = rd d.ord x := tb_rd hx.1 (by rw [h.len.1]; exact hx.2)
theorem TI.rdL (h : TI G d C ct nx) {x : Int} (hx : isNode G x) : tb d.low x = rd d.low x := tb_rd hx.1 (by rw [h.len.2.1]; exact hx.2)
theorem TI.le (h : TI G d C ct nx) : nx ≤ G.length ∧ ct ≤ G.length ∧ d.stk.length ≤ G.length := by have := h.cn; have := h.ce; omega
/-- What enter does. -/
def FD.ent (d : FD) (s : Int) : FD := { d with nxt := d.nxt + 1, ord := d.ord.set s.toNat (d.nxt + 1), low := d.low.set s.toNat (d.nxt + 1), stk := d.stk ++ [s], on := d.on.set s.toNat true }
theorem TI.ent_rest (h : TI G d C ct nx) {s : Int} (hs : isNode G s) (h0 : rd d.ord s = 0) {C' : List (Int × Nat)} (hI : Grf.Tj.Inv (adj G) (nodes G) (Grf.Tj.put (tb d.ord) s (nx + 1 : Nat)) (Grf.Tj.put (tb d.low) s (nx + 1 : Nat)) (s :: d.stk.reverse) C' (tb d.comp) ct (nx + 1)) :
    TI G (d.ent s) C' ct (nx + 1) ∧ Grf.cnt (nodes G) (visd (d.ent s)) + 1 = Grf.cnt (nodes G) (visd d) ∧ (∀ x, visd d x = true → visd (d.ent s) x = true) ∧ visd (d.ent s) s = true := by
  have hl := h.len
  have e1 : tb (d.ent s).ord = Grf.Tj.put (tb d.ord) s (nx + 1 : Nat) := by
    show tb (d.ord.set s.toNat (d.nxt + 1)) = _
    rw [tb_set hs.1 (by rw [hl.1]; exact hs.2), h.hn]; rfl
  have e2 : tb (d.ent s).low = Grf.Tj.put (tb d.low) s (nx + 1 : Nat) := by
    show tb (d.low.set s.toNat (d.nxt + 1)) = _
    rw [tb_set hs.1 (by rw [hl.2.1]; exact hs.2), h.hn]; rfl
  have e3 : visd (d.ent s) = Grf.mark (visd d) s := by
    funext x
    unfold visd Grf.mark
    rw [e1]
    unfold Grf.Tj.put
    by_cases e : x = s
    · rw [if_pos e, if_pos e]; exact decide_eq_true (by omega)
    · rw [if_neg e, if_neg e]
  have hm : visd d s = false := by unfold visd; rw [h.rdO hs, h0]; rfl
  have e4 := Grf.cnt_mark ((mem_nodes G s).2 hs) hm
  have e5 : Grf.cnt (nodes G) (visd d) ≤ Grf.cnt (nodes G) (Grf.mark (visd d) s) + 1 := by
    have := cnt_mark_le (visd d) s (nodes G) (nodes_nd G)
    omega
  refine ⟨⟨?_, fun x hx => ?_, h.hc, ?_, ?_, ?_, ?_⟩, ?_, fun x hx => ?_, ?_⟩
  · rw [e1, e2]
    show Grf.Tj.Inv _ _ _ _ (d.stk ++ [s]).reverse _ _ _ _
    rw [List.reverse_append]
    exact hI
  · show rdOf false (d.on.set s.toNat true) x = true ↔ x ∈ d.stk ++ [s]
    rw [rdB_set hs.1 (by rw [hl.2.2.1]; exact hs.2) hx.1]
    by_cases e : x = s
    · simp [e]
    · rw [if_neg e, h.on x hx]; simp [e]
  · show d.nxt + 1 = _
    rw [h.hn]; rfl
  · unfold FD.ent; simpa using hl
  · rw [e3]; have := h.cn; omega
  · show ct + (d.stk ++ [s]).length ≤ _
    have := h.ce; simp; omega
  · rw [e3]; omega
  · rw [e3]; exact (Grf.mark_iff _ _ _).2 (.inr hx)
  · rw [e3]; exact (Grf.mark_iff _ _ _).2 (.inl rfl)
theorem TI.begin (h : TI G d [] ct nx) {s : Int} (hs : isNode G s) (h0 : rd d.ord s = 0) :
    TI G (d.ent s) [(s, 0)] ct (nx + 1) ∧ Grf.cnt (nodes G) (visd (d.ent s)) + 1 = Grf.cnt (nodes G) (visd d) ∧ (∀ x, visd d x = true → visd (d.ent s) x = true) ∧ visd (d.ent s) s = true := by
  have he := h.inv.empty
  have hi := h.inv
  rw [he] at hi
  refine h.ent_rest hs h0 ?_
  rw [he]
  exact hi.begin ((mem_nodes G s).2 hs) (by rw [h.rdO hs]; exact h0)
theorem TI.new (hG : okG G) {n s : Int} {i : Nat} (h : TI G d ((n, i) :: C) ct nx) (hi : i < (adj G n).length) (e : (adj G n)[i] = s) (h0 : rd d.ord s = 0) :
    TI G (d.ent s) ((s, 0) :: (n, i + 1) :: C) ct (nx + 1) ∧ Grf.cnt (nodes G) (visd (d.ent s)) + 1 = Grf.cnt (nodes G) (visd d) ∧ (∀ x, visd d x = true → visd (d.ent s) x = true) ∧ visd (d.ent s) s = true := by
  have hs : isNode G s := hG.adj (h.callN List.mem_cons_self) (e ▸ List.getElem_mem hi)
  exact h.ent_rest hs h0 (h.inv.new hG.cl hi e (by rw [h.rdO hs]; exact h0))
theorem TI.old (hG : okG G) {n s : Int} {i : Nat} (h : TI G d ((n, i) :: C) ct nx) (hi : i < (adj G n).length) (e : (adj G n)[i] = s) (h0 : rd d.ord s ≠ 0) (h1 : rdOf false d.on s = false) : TI G d ((n, i + 1) :: C) ct nx := by
  have hs : isNode G s := hG.adj (h.callN List.mem_cons_self) (e ▸ List.getElem_mem hi)
  subst e
  refine ⟨h.inv.old hi (by rw [h.rdO hs]; exact h0) (fun hc => ?_), h.on, h.hc, h.hn, h.len, h.cn, h.ce⟩
  have := (h.on _ hs).2 (List.mem_reverse.1 hc)
  rw [h1] at this; cases this
/-- What lower does. -/
def FD.lo (d : FD) (n u : Int) : FD := { d with low := d.low.set n.toNat (min (rd d.low n) u) }
theorem FD.lo_tb (hl : d.low.length = G.length) {n : Int} (hn : isNode G n) (u : Int) : tb (d.lo n u).low = Grf.Tj.put (tb d.low) n (min (tb d.low n) u) := by
  show tb (d.low.set n.toNat (min (rd d.low n) u)) = _
  rw [tb_set hn.1 (by rw [hl]; exact hn.2), tb_rd hn.1 (by rw [hl]; exact hn.2)]
theorem TI.lower (hG : okG G) {n s : Int} {i : Nat} (h : TI G d ((n, i) :: C) ct nx) (hi : i < (adj G n).length) (e : (adj G n)[i] = s) (h1 : rdOf false d.on s = true) : TI G (d.lo n (rd d.ord s)) ((n, i + 1) :: C) ct nx := by
  have hs : isNode G s := hG.adj (h.callN List.mem_cons_self) (e ▸ List.getElem_mem hi)
  have hn : isNode G n := h.callN List.mem_cons_self
  have h2 := h.inv.lower hi e (List.mem_reverse.2 ((h.on s hs).1 h1))
  refine ⟨?_, h.on, h.hc, h.hn, ?_, h.cn, h.ce⟩
  · rw [FD.lo_tb h.len.2.1 hn, ← h.rdO hs]; exact h2
  · have := h.len; unfold FD.lo; simpa using this
/-- The place of the top node in the stack. -/
theorem TI.split {n : Int} {i : Nat} (h : TI G d ((n, i) :: C) ct nx) : ∃ L U, d.stk = L ++ n :: U ∧ ∀ x ∈ U, isNode G x ∧ x ≠ n := by
  obtain ⟨L, U, e⟩ := List.append_of_mem (List.mem_reverse.1 (h.inv.cs (n, i) List.mem_cons_self))
  refine ⟨L, U, e, fun x hx => ⟨h.stkN (by rw [e]; simp [hx]), fun e1 => ?_⟩⟩
  subst e1
  have h1 := h.inv.sp
  simp only at e
  rw [e, List.reverse_append, List.reverse_cons, List.append_assoc] at h1
  have := (List.pairwise_append.1 h1).2.2 x (List.mem_reverse.2 hx) x (by simp)
  omega
/-- What the end of a visit does to the parent. -/
def FD.par (d : FD) (n : Int) (C : List (Int × Nat)) : FD :=
  match C with
  | [] => d
  | (p, _) :: _ => d.lo p (rd d.low n)
theorem FD.par_tb (hl : d.low.length = G.length) {n : Int} (hn : isNode G n) (hC : ∀ c ∈ C, isNode G c.1) : tb (d.par n C).low = Grf.Tj.lowP (tb d.low) n C := by
  unfold FD.par Grf.Tj.lowP
  rcases C with _ | ⟨⟨p, j⟩, C⟩
  · rfl
  · simp only
    rw [FD.lo_tb hl (hC (p, j) List.mem_cons_self), tb_rd hn.1 (by rw [hl]; exact hn.2)]
theorem FD.par_same (d : FD) (n : Int) (C : List (Int × Nat)) : (d.par n C).ord = d.ord ∧ (d.par n C).on = d.on ∧ (d.par n C).stk = d.stk ∧ (d.par n C).comp = d.comp ∧ (d.par n C).cnt = d.cnt ∧ (d.par n C).nxt = d.nxt ∧ (d.par n C).low.length = d.low.length := by
  unfold FD.par FD.lo
  rcases C with _ | ⟨⟨p, j⟩, C⟩ <;> simp
theorem TI.leave {n : Int} {i : Nat} (h : TI G d ((n, i) :: C) ct nx) (hi : (adj G n).length ≤ i) {L U : List Int} (e : d.stk = L ++ n :: U) (d' : FD) (hd : d' = if rd d.low n = rd d.ord n then { d.off L (n :: U).reverse with cnt := d.cnt + 1 } else d) :
    ∃ ct', TI G (d'.par n C) C ct' nx ∧ visd (d'.par n C) = visd d := by
  have hn : isNode G n := h.callN List.mem_cons_self
  have hC : ∀ c ∈ C, isNode G c.1 := fun c hc => h.callN (List.mem_cons_of_mem _ hc)
  obtain ⟨q1, q2, q3, q4, q5, q6, q7⟩ := FD.par_same d' n C
  by_cases hlo : rd d.low n = rd d.ord n
  · rw [if_pos hlo] at hd
    have hP : ∀ x ∈ (n :: U).reverse, 0 ≤ x ∧ x < G.length := fun x hx => h.stkN (by rw [e]; simp at hx ⊢; rcases hx with hx | hx <;> simp [hx])
    have hin : ∀ x, x ∈ (n :: U).reverse ↔ x ∈ U.reverse ∨ x = n := fun x => by simp [or_comm]
    have hinv := h.inv
    rw [e, List.reverse_append, List.reverse_cons, List.append_assoc] at hinv
    have h1 : d'.comp = putAll d.comp (n :: U).reverse d.cnt := by rw [hd]; rfl
    have h2 : d'.on = putAll d.on (n :: U).reverse false := by rw [hd]; rfl
    have h3 : d'.stk = L := by rw [hd]; rfl
    have h4 : d'.ord = d.ord := by rw [hd]; rfl
    have h5 : d'.low = d.low := by rw [hd]; rfl
    have h6 : d'.cnt = d.cnt + 1 := by rw [hd]
    have h7 : d'.nxt = d.nxt := by rw [hd]; rfl
    have hcomp := tb_all (v := d.cnt) (n :: U).reverse d.comp (fun x hx => by rw [h.len.2.2.2]; exact hP x hx)
    have hpop := Grf.Tj.Inv.pop (comp' := tb (d'.par n C).comp) hinv hi (by rw [h.rdL hn, h.rdO hn]; exact hlo)
      (fun x hx => by rw [q4, h1, hcomp, if_pos ((hin x).2 hx), h.hc]) (fun x hx => by rw [q4, h1, hcomp, if_neg (fun hh => hx ((hin x).1 hh))])
    refine ⟨ct + 1, ⟨?_, fun x hx => ?_, ?_, ?_, ?_, ?_, ?_⟩, ?_⟩
    · rw [q1, q3, h3, h4, FD.par_tb (by rw [h5]; exact h.len.2.1) hn hC, h5]
      exact hpop
    · rw [q2, q3, h2, h3, rdB_all _ _ (fun x hx => by rw [h.len.2.2.1]; exact hP x hx) x hx.1]
      by_cases hxP : x ∈ (n :: U).reverse
      · rw [if_pos hxP]
        refine ⟨fun hh => (by cases hh), fun hxL => ?_⟩
        have hsp := h.inv.sp
        rw [e, List.reverse_append, List.reverse_cons] at hsp
        have := (List.pairwise_append.1 hsp).2.2 x (by rw [hin] at hxP; simpa using hxP) x (List.mem_reverse.2 hxL)
        omega
      · rw [if_neg hxP, h.on x hx, e]
        have : x ≠ n ∧ x ∉ U := ⟨fun e => hxP ((hin x).2 (.inr e)), fun hh => hxP ((hin x).2 (.inl (List.mem_reverse.2 hh)))⟩
        simp [this.1, this.2]
    · rw [q5, h6, h.hc]; rfl
    · rw [q6, h7, h.hn]
    · rw [q1, q7, q2, q4, h1, h2, h4, h5, putAll_len, putAll_len]; exact h.len
    · have : visd (d'.par n C) = visd d := by unfold visd; rw [q1, h4]
      rw [this]; exact h.cn
    · rw [q3, h3]; have := h.ce; rw [e] at this; simp at this; omega
    · unfold visd; rw [q1, h4]
  · rw [if_neg hlo] at hd
    subst hd
    refine ⟨ct, ⟨?_, fun x hx => ?_, ?_, ?_, ?_, ?_, ?_⟩, ?_⟩
    · rw [q1, q3, q4, FD.par_tb h.len.2.1 hn hC]
      exact h.inv.stay hi (by rw [h.rdL hn, h.rdO hn]; exact hlo)
    · rw [q2, q3]; exact h.on x hx
    · rw [q5]; exact h.hc
    · rw [q6]; exact h.hn
    · rw [q1, q7, q2, q4]; exact h.len
    · have : visd (d'.par n C) = visd d' := by unfold visd; rw [q1]
      rw [this]; exact h.cn
    · rw [q3]; exact h.ce
    · unfold visd; rw [q1]
end
end Go.Proofs.Ytmlikgmcekofbaa
end

