/- The reverse postorder in plain lists: positions, backward edges and cycles. -/
import Derived.Test.YtjkclhpibielfaaFrJ
set_option linter.unusedVariables false
set_option linter.unusedSimpArgs false
namespace Go.Proofs.Ytjkclhpibielfaa
open Go.RowKit Go.Proofs.YtjkclhpibielfaaW.PrintWords Go.Proofs.Ytjkclhpibielfaa.PDigraphTells Mem

/-- Where n stands in a list; -1 if it does not. -/
def pos (T : List Int) (n : Int) : Int := if n ∈ T then (T.idxOf n : Int) else -1
theorem pos_out {T : List Int} {n : Int} (h : n ∉ T) : pos T n = -1 := by unfold pos; rw [if_neg h]
theorem pos_in {T : List Int} {n : Int} (h : n ∈ T) : 0 ≤ pos T n ∧ pos T n < T.length := by
  unfold pos; rw [if_pos h]
  have := List.idxOf_lt_length_of_mem h
  omega
theorem pos_nonneg {T : List Int} {n : Int} : 0 ≤ pos T n ↔ n ∈ T := by
  by_cases h : n ∈ T
  · exact ⟨fun _ => h, fun _ => (pos_in h).1⟩
  · rw [pos_out h]; exact ⟨fun h1 => by omega, fun h1 => absurd h1 h⟩
theorem pos_left {T R : List Int} {n : Int} (h : n ∈ T) : pos (T ++ R) n = pos T n := by
  unfold pos
  rw [if_pos h, if_pos (List.mem_append_left _ h), List.idxOf_append, if_pos h]
theorem pos_mid {T R : List Int} {x : Int} (h : x ∉ T) : pos (T ++ x :: R) x = T.length := by
  unfold pos
  rw [if_pos (by simp), List.idxOf_append, if_neg h]
  simp
theorem pos_snoc {T : List Int} {x : Int} (hx : x ∉ T) (n : Int) : pos (T ++ [x]) n = if n = x then (T.length : Int) else pos T n := by
  by_cases e : n = x
  · subst e; rw [if_pos rfl, pos_mid hx]
  · rw [if_neg e]
    by_cases h : n ∈ T
    · exact pos_left h
    · rw [pos_out h, pos_out (by simp [h, e])]
theorem pos_inj {T : List Int} {x y : Int} (hx : x ∈ T) (h : pos T x = pos T y) : x = y := by
  have hy : y ∈ T := pos_nonneg.1 (by rw [← h]; exact (pos_in hx).1)
  unfold pos at h
  rw [if_pos hx, if_pos hy] at h
  have h1 := List.idxOf_lt_length_of_mem hx
  have h2 : T.idxOf x = T.idxOf y := by omega
  have e1 : T[T.idxOf x]'h1 = x := List.getElem_idxOf h1
  have e2 : T[T.idxOf y]'(List.idxOf_lt_length_of_mem hy) = y := List.getElem_idxOf _
  rw [← e1, ← e2]
  simp only [h2]
/-- The list of positions. -/
def posL (G : List (List Int)) (T : List Int) : List Int := (nodes G).map (pos T)
theorem posL_len (G : List (List Int)) (T : List Int) : (posL G T).length = G.length := by unfold posL; rw [List.length_map, nodes_len]
theorem posL_get (G : List (List Int)) (T : List Int) (n : Int) (h : isNode G n) : rd (posL G T) n = pos T n := by
  unfold isNode at h
  rw [distOf_rd _ _ h.1 (by rw [posL_len]; exact h.2)]
  have e : n = (n.toNat : Int) := by omega
  rw [e, distOf_get _ n.toNat (by rw [posL_len]; omega)]
  unfold posL nodes
  rw [List.getElem_map, List.getElem_map, List.getElem_range]
theorem posL_set (G : List (List Int)) {T : List Int} {x : Int} (h : isNode G x) (hx : x ∉ T) : (posL G T).set x.toNat (T.length : Int) = posL G (T ++ [x]) := by
  have h' := h
  unfold isNode at h'
  refine distOf_ext (by rw [List.length_set, posL_len, posL_len]) fun y h0 h1 => ?_
  rw [List.length_set, posL_len] at h1
  have hy : isNode G y := by unfold isNode; omega
  rw [distOf_set _ _ _ h'.1 (by rw [posL_len]; exact h'.2), ← distOf_rd (posL G (T ++ [x])) y h0 (by rw [posL_len]; exact h1), posL_get G _ y hy, pos_snoc hx]
  unfold Grf.put
  split
  · rfl
  · rw [← distOf_rd (posL G T) y h0 (by rw [posL_len]; exact h1), posL_get G _ y hy]
theorem posL_nil (G : List (List Int)) : posL G [] = List.replicate G.length (-1) := by
  unfold posL
  rw [← nodes_len G]
  have : ∀ l : List Int, l.map (pos []) = List.replicate l.length (-1) := by
    intro l
    induction l with
    | nil => rfl
    | cons x r ih => rw [List.map_cons, ih, List.length_cons, List.replicate_succ, pos_out (by simp)]
  exact this _
theorem posL_last (G : List (List Int)) {L : List Int} (hnd : L.Nodup) (i : Nat) (h : i < L.length) : L[i] ∉ L.take i := by
  intro hm
  obtain ⟨j, hj, e⟩ := List.getElem_of_mem hm
  rw [List.length_take] at hj
  rw [List.getElem_take] at e
  exact List.pairwise_iff_getElem.1 hnd j i (by omega) h (by omega) e

/-- The edges of the rows below i. -/
def pairs (G : List (List Int)) (i : Nat) : List (Int × Int) := (List.range i).flatMap fun a => (G.getD a []).map fun k => ((a : Int), k)
theorem pairs_succ (G : List (List Int)) (i : Nat) (h : i < G.length) : pairs G (i + 1) = pairs G i ++ G[i].map fun k => ((i : Int), k) := by
  unfold pairs
  rw [List.range_succ, List.flatMap_append, List.flatMap_singleton]
  simp [h]
theorem mem_pairs (G : List (List Int)) (m k : Int) : (m, k) ∈ pairs G G.length ↔ isNode G m ∧ k ∈ adj G m := by
  unfold pairs
  rw [List.mem_flatMap]
  constructor
  · rintro ⟨a, ha, h⟩
    rw [List.mem_range] at ha
    obtain ⟨x, hx, e⟩ := List.mem_map.1 h
    injection e with e1 e2
    subst e1 e2
    refine ⟨by unfold isNode; omega, ?_⟩
    rw [adj_nat G a ha]
    simpa [ha] using hx
  · rintro ⟨h1, h2⟩
    obtain ⟨hi, e⟩ := adj_eq h1
    unfold isNode at h1
    refine ⟨m.toNat, List.mem_range.2 hi, List.mem_map.2 ⟨k, ?_, ?_⟩⟩
    · rw [e] at h2; simpa [hi] using h2
    · rw [Int.toNat_of_nonneg h1.1]
def pA (f : Int → Int) (n : Int) (e : Int × Int) : Bool := (e.2 == n) && (decide (0 ≤ f e.1) && decide (f e.1 < f n))
def pB (f : Int → Int) (n : Int) (e : Int × Int) : Bool := (e.2 == n) && (decide (0 ≤ f e.1) && decide (f n ≤ f e.1))
def bckAll (G : List (List Int)) (f : Int → Int) (i : Nat) : Bool := ((nodes G).take i).any fun n => (pairs G G.length).any (pB f n)
noncomputable def pC (G : List (List Int)) (a : Int) (e : Int × Int) : Bool := metOf (reachL G a) e.1 && metOf (reachL G e.2) e.1

section
variable {G : List (List Int)} {a : Int} (h : chk G = 0 ∧ isNode G a)
include h
theorem rpo_mem (x : Int) : x ∈ (post G a).reverse ↔ Grf.Reach (adj G) a x := by rw [List.mem_reverse]; exact post_mem h x
theorem reach_node {x : Int} (hx : Grf.Reach (adj G) a x) : isNode G x := (mem_nodes G x).1 (hx.mem (okG.cl h.1) ((mem_nodes G a).2 h.2))
theorem rpo_met {x : Int} (hx : isNode G x) : metOf (reachL G a) x = decide (0 ≤ pos (post G a).reverse x) := by
  rw [Bool.eq_iff_iff, reachL_get h hx, decide_eq_true_iff, pos_nonneg, rpo_mem h]
theorem rpo_head : ∃ t, (post G a).reverse = a :: t := by
  obtain ⟨_, _, i, hi⟩ := post_found h
  exact ⟨i.reverse, by rw [hi]; simp⟩
theorem rpo_split {i : List Int} {x : Int} {b : List Int} (e : post G a = i ++ x :: b) : (post G a).reverse = b.reverse ++ x :: i.reverse ∧ x ∉ i ∧ x ∉ b ∧ ∀ y ∈ i, y ∉ b := by
  have hnd := post_nd h
  rw [e] at hnd ⊢
  rw [List.nodup_append] at hnd
  obtain ⟨h1, h2, h3⟩ := hnd
  rw [List.nodup_cons] at h2
  refine ⟨by simp, fun hx => h3 x hx x (by simp) rfl, h2.1, fun y hy hb => h3 y hy y (List.mem_cons_of_mem _ hb) rfl⟩
theorem after_final {x : Int} (hx : Grf.Reach (adj G) a x) : x = a ∨ (pairs G G.length).any (pA (pos (post G a).reverse) x) = true := by
  obtain ⟨met', hf, _⟩ := post_found h
  obtain ⟨i, b, e⟩ := List.append_of_mem ((post_mem h x).2 hx)
  rcases hf.parent i x b e with h1 | ⟨m, hm, hadj⟩
  · exact .inl (by simpa using h1)
  · right
    obtain ⟨e2, n1, n2, n3⟩ := rpo_split h e
    have hmr : Grf.Reach (adj G) a m := (post_mem h m).1 (by rw [e]; simp [hm])
    rw [List.any_eq_true]
    refine ⟨(m, x), (mem_pairs G m x).2 ⟨reach_node h hmr, hadj⟩, ?_⟩
    have p1 : pos (post G a).reverse x = b.length := by rw [e2, pos_mid (by simpa using n2)]; simp
    have p2 : pos (post G a).reverse m = pos b.reverse m := by rw [e2]; exact pos_left (by simpa using hm)
    have p3 := pos_in (T := b.reverse) (n := m) (by simpa using hm)
    rw [List.length_reverse] at p3
    simp only [pA, beq_self_eq_true, Bool.true_and, Bool.and_eq_true, decide_eq_true_eq]
    rw [p1, p2]
    exact p3
theorem back_final : bckAll G (pos (post G a).reverse) G.length = (pairs G G.length).any (pC G a) := by
  obtain ⟨met', hf, _⟩ := post_found h
  rw [Bool.eq_iff_iff, List.any_eq_true]
  unfold bckAll
  rw [List.take_of_length_le (by rw [nodes_len]; exact Nat.le_refl _), List.any_eq_true]
  constructor
  · rintro ⟨n, hn, hb⟩
    rw [List.any_eq_true] at hb
    obtain ⟨⟨m, k⟩, he, hp⟩ := hb
    simp only [pB, Bool.and_eq_true, beq_iff_eq, decide_eq_true_eq] at hp
    obtain ⟨rfl, h0, hle⟩ := hp
    have hm := (mem_pairs G m k).1 he
    have hmr := (rpo_mem h m).1 (pos_nonneg.1 h0)
    refine ⟨(m, k), he, ?_⟩
    have hkr : Grf.Reach (adj G) a k := .tail hmr hm.2
    have hk := reach_node h hkr
    simp only [pC, Bool.and_eq_true]
    refine ⟨(reachL_get h hm.1).2 hmr, (reachL_get ⟨h.1, hk⟩ hm.1).2 ?_⟩
    obtain ⟨i, b, e⟩ := List.append_of_mem ((post_mem h m).2 hmr)
    obtain ⟨e2, n1, n2, n3⟩ := rpo_split h e
    rcases hf.order (fun g hg => by cases hg) i m b e k hm.2 with h1 | h1
    · exfalso
      have p1 : pos (post G a).reverse m = b.length := by rw [e2, pos_mid (by simpa using n2)]; simp
      rw [List.nil_append] at h1
      have hkb : k ∉ b := n3 k h1
      have hkm : k ≠ m := fun e9 => n1 (e9 ▸ h1)
      have hkl : k ∈ b.reverse ++ m :: i.reverse := by simp [h1]
      have p2 : (b.length : Int) < pos (b.reverse ++ m :: i.reverse) k := by
        unfold pos
        rw [if_pos (by simp [h1]), List.idxOf_append, if_neg (by simpa using hkb), List.idxOf_cons, show (m == k) = false by simpa using Ne.symm hkm, cond_false]
        rw [List.length_reverse]
        omega
      rw [e2] at hle
      rw [e2] at p1
      omega
    · exact h1
  · rintro ⟨⟨n, m⟩, he, hp⟩
    simp only [pC, Bool.and_eq_true] at hp
    have hm := (mem_pairs G n m).1 he
    have hnr := (reachL_get h hm.1).1 hp.1
    have hmr : Grf.Reach (adj G) a m := .tail hnr hm.2
    have hmn := (reachL_get ⟨h.1, reach_node h hmr⟩ hm.1).1 hp.2
    refine Classical.byContradiction fun hno => ?_
    have edge : ∀ x y, Grf.Reach (adj G) a x → y ∈ adj G x → pos (post G a).reverse x < pos (post G a).reverse y := by
      intro x y hx hy
      refine Classical.byContradiction fun hlt => hno ?_
      have hyr : Grf.Reach (adj G) a y := .tail hx hy
      refine ⟨y, (mem_nodes G y).2 (reach_node h hyr), ?_⟩
      rw [List.any_eq_true]
      refine ⟨(x, y), (mem_pairs G x y).2 ⟨reach_node h hx, hy⟩, ?_⟩
      simp only [pB, beq_self_eq_true, Bool.true_and, Bool.and_eq_true, decide_eq_true_eq]
      exact ⟨pos_nonneg.2 ((rpo_mem h x).2 hx), by omega⟩
    have up : ∀ x y, Grf.Reach (adj G) a x → Grf.Reach (adj G) x y → pos (post G a).reverse x ≤ pos (post G a).reverse y := by
      intro x y hx hxy
      induction hxy with
      | refl => exact Int.le_refl _
      | tail h1 e ih => exact Int.le_of_lt (Int.lt_of_le_of_lt ih (edge _ _ (hx.trans h1) e))
    have h1 := edge n m hnr hm.2
    have h2 := up m n hmr hmn
    omega
end
end Go.Proofs.Ytjkclhpibielfaa
