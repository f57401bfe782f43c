/- The reversed graph in plain lists. -/
import Derived.Test.YtjkclhpibielfaaFrJ
set_option linter.unusedVariables false
set_option linter.unusedSimpArgs false
namespace Go.Proofs.Ytjkclhpibielfaa
open Go.RowKit Go.Proofs.YtjkclhpibielfaaW.PrintWords Go.Proofs.Ytjkclhpibielfaa.PDigraphTells Mem

theorem rev_len {G : List (List Int)} (h : chk G = 0) : (revL G).length = G.length := by unfold revL; rw [if_pos h, List.length_map, nodes_len]
theorem rev_adj {G : List (List Int)} (h : chk G = 0) {b : Int} (hb : isNode G b) : adj (revL G) b = rvU G G.length b := by
  unfold isNode at hb
  have hl : b.toNat < (revL G).length := by rw [rev_len h]; omega
  have e : b = (b.toNat : Int) := by omega
  rw [e, adj_nat _ _ hl]
  unfold revL nodes
  simp only [if_pos h, List.getElem_map, List.getElem_range]
theorem rev_node {G : List (List Int)} (h : chk G = 0) {b : Int} : isNode (revL G) b ↔ isNode G b := by unfold isNode; rw [rev_len h]
theorem mem_rvU {G : List (List Int)} (b x : Int) : x ∈ rvU G G.length b ↔ isNode G x ∧ b ∈ adj G x := by
  unfold rvU
  rw [List.mem_flatMap]
  constructor
  · rintro ⟨a, ha, h⟩
    rw [List.mem_range] at ha
    obtain ⟨y, hy, rfl⟩ := List.mem_map.1 h
    rw [List.mem_filter] at hy
    refine ⟨by unfold isNode; omega, ?_⟩
    rw [adj_nat G a ha]
    have e : y = b := by simpa using hy.2
    subst e
    simpa [ha] using hy.1
  · rintro ⟨h1, h2⟩
    obtain ⟨hi, e⟩ := adj_eq h1
    unfold isNode at h1
    refine ⟨x.toNat, List.mem_range.2 hi, List.mem_map.2 ⟨b, ?_, Int.toNat_of_nonneg h1.1⟩⟩
    rw [List.mem_filter]
    rw [e] at h2
    exact ⟨by simpa [hi] using h2, by simp⟩
theorem rev_ok {G : List (List Int)} (h : chk G = 0) : chk (revL G) = 0 := by
  refine chk_ok.2 ⟨by rw [rev_len h]; exact okG.len h, fun l hl s hs => ?_⟩
  unfold revL at hl
  rw [if_pos h] at hl
  obtain ⟨b, hb, rfl⟩ := List.mem_map.1 hl
  exact (rev_node h).2 ((mem_rvU b s).1 hs).1
theorem rev_row_le {G : List (List Int)} {l : List Int} (hl : l ∈ revL G) : l.length ≤ edges G := by
  unfold revL at hl
  split at hl
  · obtain ⟨b, _, rfl⟩ := List.mem_map.1 hl
    have h1 := edges_take G G.length (Nat.le_refl _) b
    rwa [List.take_length] at h1
  · simp at hl
theorem rev_edges {G : List (List Int)} (h : G.length ≤ 60 ∧ edges G ≤ 300) : edges (revL G) ≤ 18000 := by
  have h1 := edges_le 300 (revL G) (fun l hl => Nat.le_trans (rev_row_le hl) h.2)
  have h2 : (revL G).length ≤ 60 := by
    unfold revL
    split
    · rw [List.length_map, nodes_len]; exact h.1
    · simp
  have h3 : (revL G).length * 300 ≤ 60 * 300 := Nat.mul_le_mul_right _ h2
  omega
theorem rev_mem {G : List (List Int)} (h : chk G = 0) {x b : Int} (hb : isNode G b) : x ∈ adj (revL G) b ↔ isNode G x ∧ b ∈ adj G x := by rw [rev_adj h hb, mem_rvU]
theorem rev_reach {G : List (List Int)} (h : chk G = 0) {a b : Int} (ha : isNode G a) (hb : isNode G b) : Grf.Reach (adj G) a b ↔ Grf.Reach (adj (revL G)) b a := by
  constructor
  · intro hr
    have hn : ∀ y, Grf.Reach (adj G) a y → isNode G y := fun y hy => (mem_nodes G y).1 (hy.mem (okG.cl h) ((mem_nodes G a).2 ha))
    clear hb
    induction hr with
    | refl => exact .refl _
    | tail h1 e ih => exact Grf.Reach.head ((rev_mem h (hn _ (.tail h1 e))).2 ⟨hn _ h1, e⟩) ih
  · intro hr
    have hn : ∀ y, Grf.Reach (adj (revL G)) b y → isNode G y := fun y hy => (rev_node h).1 ((mem_nodes _ y).1 (hy.mem (okG.cl (rev_ok h)) ((mem_nodes _ b).2 ((rev_node h).2 hb))))
    clear ha
    induction hr with
    | refl => exact .refl _
    | tail h1 e ih => exact Grf.Reach.head ((rev_mem h (hn _ h1)).1 e).2 ih
/-- How often x stands in l. -/
def times (l : List Int) (x : Int) : Nat := (l.filter (· == x)).length
theorem times_rvU (G : List (List Int)) (a : Int) (b : Int) : ∀ i, times (rvU G i b) a = if 0 ≤ a ∧ a < i then times (G.getD a.toNat []) b else 0 := by
  intro i
  induction i with
  | zero => rw [if_neg (by omega)]; rfl
  | succ i ih =>
    have e : rvU G (i + 1) b = rvU G i b ++ ((G.getD i []).filter (· == b)).map fun _ => (i : Int) := by
      unfold rvU
      rw [List.range_succ, List.flatMap_append, List.flatMap_singleton]
    have e2 : times (rvU G (i + 1) b) a = times (rvU G i b) a + times (((G.getD i []).filter (· == b)).map fun _ => (i : Int)) a := by
      unfold times
      rw [e, List.filter_append, List.length_append]
    rw [e2, ih]
    have e3 : ∀ l : List Int, times (l.map fun _ => (i : Int)) a = if a = i then l.length else 0 := by
      intro l
      induction l with
      | nil => simp [times]
      | cons x r ih2 =>
        unfold times at ih2 ⊢
        rw [List.map_cons, List.filter_cons]
        by_cases h9 : a = i
        · rw [if_pos h9] at ih2 ⊢
          rw [if_pos (by simp [h9]), List.length_cons, ih2, List.length_cons]
        · rw [if_neg h9] at ih2 ⊢
          rw [if_neg (by simpa using Ne.symm h9), ih2]
    rw [e3]
    by_cases h1 : a = i
    · subst h1
      rw [if_neg (by omega), if_pos rfl, if_pos (by omega), Int.toNat_natCast]
      simp [times]
    · rw [if_neg h1]
      by_cases h2 : 0 ≤ a ∧ a < i
      · rw [if_pos h2, if_pos (by omega)]; omega
      · rw [if_neg h2, if_neg (by omega)]
theorem rev_times {G : List (List Int)} (h : chk G = 0) {a b : Int} (ha : isNode G a) (hb : isNode G b) : times (adj (revL G) b) a = times (adj G a) b := by
  rw [rev_adj h hb, times_rvU]
  unfold isNode at ha
  rw [if_pos ha]
  obtain ⟨hi, e⟩ := adj_eq (show isNode G a from ha)
  rw [e]
  simp [hi]
theorem sorted_rvU (G : List (List Int)) (b : Int) : ∀ i, (rvU G i b).Pairwise (· ≤ ·) := by
  intro i
  induction i with
  | zero => simp [rvU]
  | succ i ih =>
    have e : rvU G (i + 1) b = rvU G i b ++ ((G.getD i []).filter (· == b)).map fun _ => (i : Int) := by
      unfold rvU
      rw [List.range_succ, List.flatMap_append, List.flatMap_singleton]
    rw [e, List.pairwise_append]
    refine ⟨ih, ?_, fun x hx y hy => ?_⟩
    · rw [List.pairwise_map]
      exact List.pairwise_iff_getElem.2 (fun _ _ _ _ _ => Int.le_refl _)
    · obtain ⟨_, _, rfl⟩ := List.mem_map.1 hy
      have := rvU_lt G i b x hx
      omega
theorem len_rvU (H : List (List Int)) (a : Int) : ∀ i, (rvU H i a).length = ((List.range i).map fun b => times (H.getD b []) a).sum := by
  intro i
  induction i with
  | zero => simp [rvU]
  | succ i ih =>
    have e : rvU H (i + 1) a = rvU H i a ++ ((H.getD i []).filter (· == a)).map fun _ => (i : Int) := by
      unfold rvU
      rw [List.range_succ, List.flatMap_append, List.flatMap_singleton]
    rw [e, List.length_append, ih, List.range_succ, List.map_append, List.sum_append, List.length_map]
    simp [times]
theorem count_range1 : ∀ (n x : Nat), x < n → (List.range n).count x = 1 := by
  have h0 : ∀ (n x : Nat), n ≤ x → (List.range n).count x = 0 := fun n x h => List.count_eq_zero.2 (fun h1 => by rw [List.mem_range] at h1; omega)
  intro n
  induction n with
  | zero => intro x h; omega
  | succ n ih =>
    intro x h
    rw [List.range_succ, List.count_append]
    by_cases e : x = n
    · subst e; rw [h0 x x (Nat.le_refl _)]; simp
    · rw [ih x (by omega), List.count_singleton, if_neg (by simpa using Ne.symm e)]
theorem sum_times : ∀ (l : List Int) (n : Nat), (∀ x ∈ l, 0 ≤ x ∧ x < n) → ((List.range n).map fun (b : Nat) => times l (b : Int)).sum = l.length := by
  intro l n
  induction l with
  | nil =>
    intro _
    have : ∀ m : List Nat, (m.map fun (b : Nat) => times [] (b : Int)).sum = 0 := by
      intro m
      induction m with
      | nil => rfl
      | cons x r ih => rw [List.map_cons, List.sum_cons, ih]; rfl
    exact this _
  | cons x r ih =>
    intro h
    have h1 := ih (fun y hy => h y (List.mem_cons_of_mem _ hy))
    have hx := h x List.mem_cons_self
    have e : ∀ b : Nat, times (x :: r) (b : Int) = times r (b : Int) + if b = x.toNat then 1 else 0 := by
      intro b
      unfold times
      rw [List.filter_cons]
      by_cases h9 : b = x.toNat
      · rw [if_pos h9, if_pos (by simp; omega), List.length_cons]
      · rw [if_neg h9, if_neg (by simp; omega)]; omega
    have e2 : ∀ m : List Nat, (m.map fun (b : Nat) => times (x :: r) (b : Int)).sum = (m.map fun (b : Nat) => times r (b : Int)).sum + m.count x.toNat := by
      intro m
      induction m with
      | nil => rfl
      | cons y t ih2 =>
        rw [List.map_cons, List.sum_cons, ih2, List.map_cons, List.sum_cons, e, List.count_cons]
        by_cases h9 : y = x.toNat
        · rw [if_pos h9, if_pos (by simp [h9])]; omega
        · rw [if_neg h9, if_neg (by simpa using h9)]; omega
    rw [e2, h1, List.length_cons]
    have h3 : x.toNat ∈ List.range n := by rw [List.mem_range]; omega
    have h4 : (List.range n).count x.toNat = 1 := count_range1 n x.toNat (by omega)
    omega
theorem rev2_len {G : List (List Int)} (h : chk G = 0) {a : Int} (ha : isNode G a) : (adj (revL (revL G)) a).length = (adj G a).length := by
  rw [rev_adj (rev_ok h) ((rev_node h).2 ha), len_rvU, rev_len h]
  have e : (List.range G.length).map (fun b => times ((revL G).getD b []) a) = (List.range G.length).map (fun (b : Nat) => times (adj G a) (b : Int)) := by
    refine List.map_congr_left fun b hb => ?_
    rw [List.mem_range] at hb
    have hbn : isNode G (b : Int) := by unfold isNode; omega
    rw [← rev_times h ha hbn, adj_nat _ b (by rw [rev_len h]; exact hb)]
    simp [rev_len h, hb]
  rw [e]
  refine sum_times _ _ fun x hx => ?_
  have := okG.adj h ha hx
  unfold isNode at this
  omega
theorem rev2_sorted {G : List (List Int)} (h : chk G = 0) {a : Int} (ha : isNode G a) (i : Nat) (hi : i + 1 < (adj (revL (revL G)) a).length) : rd (adj (revL (revL G)) a) (i : Int) ≤ rd (adj (revL (revL G)) a) ((i + 1 : Nat) : Int) := by
  have hs := sorted_rvU (revL G) a (revL G).length
  rw [← rev_adj (rev_ok h) ((rev_node h).2 ha)] at hs
  rw [rd_get _ i (by omega), rd_get _ (i + 1) hi]
  exact List.pairwise_iff_getElem.1 hs i (i + 1) (by omega) hi (by omega)
theorem pred_len {G : List (List Int)} (h : chk G = 0) : (predL G).length = G.length := by unfold predL; rw [if_pos h, List.length_map, nodes_len]
theorem pred_adj {G : List (List Int)} (h : chk G = 0) {b : Int} (hb : isNode G b) : adj (predL G) b = pvU G G.length b := by
  unfold isNode at hb
  have hl : b.toNat < (predL G).length := by rw [pred_len h]; omega
  have e : b = (b.toNat : Int) := by omega
  rw [e, adj_nat _ _ hl]
  unfold predL nodes
  simp only [if_pos h, List.getElem_map, List.getElem_range]
theorem pvU_up (G : List (List Int)) (b : Int) (n : Nat) : (pvU G n b).Pairwise (· < ·) := by
  unfold pvU
  rw [List.pairwise_map]
  exact (List.pairwise_lt_range.filter _).imp (fun h => by omega)
theorem pred_up {G : List (List Int)} (h : chk G = 0) {b : Int} (hb : isNode G b) (i : Nat) (hi : i + 1 < (adj (predL G) b).length) : rd (adj (predL G) b) (i : Int) < rd (adj (predL G) b) ((i + 1 : Nat) : Int) := by
  have hs := pvU_up G b G.length
  rw [← pred_adj h hb] at hs
  rw [rd_get _ i (by omega), rd_get _ (i + 1) hi]
  exact List.pairwise_iff_getElem.1 hs i (i + 1) (by omega) hi (by omega)
theorem times_pos (l : List Int) (b : Int) : 0 < times l b ↔ b ∈ l := by
  unfold times
  rw [List.length_pos_iff_exists_mem]
  constructor
  · rintro ⟨x, hx⟩
    rw [List.mem_filter] at hx
    have e : x = b := by simpa using hx.2
    exact e ▸ hx.1
  · intro h; exact ⟨b, List.mem_filter.2 ⟨h, by simp⟩⟩
theorem pred_any {G : List (List Int)} (h : chk G = 0) {a b : Int} (ha : isNode G a) (hb : isNode G b) : (adj (predL G) b).any (· == a) = decide (0 < times (adj G a) b) := by
  rw [Bool.eq_iff_iff, List.any_eq_true, decide_eq_true_iff, times_pos, pred_adj h hb]
  constructor
  · rintro ⟨x, hx, e⟩
    have e : x = a := by simpa using e
    subst e
    exact ((mem_pvU G b x).1 hx).2
  · intro hm; exact ⟨a, (mem_pvU G b a).2 ⟨ha, hm⟩, by simp⟩
end Go.Proofs.Ytjkclhpibielfaa
