/- What the printed functions of chapter 26 answer, in plain lists. -/
import Derived.Test.YtlmendmncfibfaaPOutofssaSequentializesx2
set_option linter.unusedVariables false
set_option linter.unusedSimpArgs false
namespace Go.Proofs.Ytlmendmncfibfaa
open Go.RowKit Go.Proofs.YtlmendmncfibfaaW.PrintWords Go.Proofs.Ytlmendmncfibfaa.POutofssaSequentializes

theorem rd_get (l : List Int) (i : Nat) (h : i < l.length) : rd l (i : Int) = l[i] := by
  simp [rd, h]
theorem w64 (i n : Nat) (h : i < n) (hn : n < 4611686018427387904) : wrap64 ((i : Int) + 1) = ((i + 1 : Nat) : Int) := by
  unfold wrap64; omega

theorem idx_l0 (l : List Int) (v : Int) (hm : l.length < 4611686018427387904) : ∀ (d k i : Nat), i + d = l.length → d < k →
    ∃ r, slices_Index_int_int.l0 k l v (l.length : Int) i = some r ∧ decide (r ≥ 0) = decide (v ∈ l.drop i) := by
  intro d
  induction d with
  | zero =>
    intro k i hi hk
    obtain ⟨k, rfl⟩ : ∃ m, k = m + 1 := ⟨k - 1, by omega⟩
    simp only [slices_Index_int_int.l0]
    rw [if_neg (by omega)]
    exact ⟨-1, rfl, by rw [List.drop_eq_nil_of_le (by omega)]; simp⟩
  | succ d ih =>
    intro k i hi hk
    obtain ⟨k, rfl⟩ : ∃ m, k = m + 1 := ⟨k - 1, by omega⟩
    have hlt : i < l.length := by omega
    simp only [slices_Index_int_int.l0]
    rw [if_pos (by omega), if_pos (by omega), if_pos (by omega), rd_get l i hlt, w64 i l.length hlt hm, List.drop_eq_getElem_cons hlt]
    by_cases e : v = l[i]
    · rw [if_pos e]
      exact ⟨_, rfl, by rw [decide_eq_true (by omega), decide_eq_true (by rw [e]; exact List.mem_cons_self)]⟩
    · rw [if_neg e]
      obtain ⟨r, h1, h2⟩ := ih k (i + 1) (by omega) (by omega)
      refine ⟨r, h1, ?_⟩
      rw [h2]
      exact decide_eq_decide.2 (by rw [List.mem_cons]; exact ⟨.inr, fun h => h.resolve_left e⟩)
theorem contains_f (l : List Int) (v : Int) (k : Nat) (hm : l.length < 4611686018427387904) (hk : l.length < k) : slices_Contains_int_int.f k l v = some (decide (v ∈ l)) := by
  obtain ⟨r, h1, h2⟩ := idx_l0 l v hm l.length k 0 (by omega) hk
  unfold slices_Contains_int_int.f slices_Index_int_int.f
  have h1' : slices_Index_int_int.l0 k l v (l.length : Int) 0 = some r := h1
  rw [h1', Option.bind_some, h2, List.drop_zero]

theorem nodup_take_succ (l : List Int) (i : Nat) (h : i < l.length) (hn : (l.take i).Nodup) : (l.take (i + 1)).Nodup ↔ l[i] ∉ l.take i := by
  rw [List.take_succ_eq_append_getElem h, List.nodup_append]
  constructor
  · intro h1 h2
    exact h1.2.2 _ h2 _ (by simp) rfl
  · intro h1
    refine ⟨hn, by simp, ?_⟩
    intro a ha b hb e
    rw [List.mem_singleton] at hb
    exact h1 (by rw [← hb, ← e]; exact ha)
theorem distinct_l0 (l : List Int) (hm : l.length < 4611686018427387904) : ∀ (d k i : Nat), i + d = l.length → l.length + d < k → (l.take i).Nodup →
    outofssa_distinct.l0 k l l (l.length : Int) i = some (decide l.Nodup) := by
  intro d
  induction d with
  | zero =>
    intro k i hi hk hn
    obtain ⟨k, rfl⟩ : ∃ m, k = m + 1 := ⟨k - 1, by omega⟩
    simp only [outofssa_distinct.l0]
    rw [if_neg (by omega)]
    rw [List.take_of_length_le (by omega)] at hn
    simp [hn]
  | succ d ih =>
    intro k i hi hk hn
    obtain ⟨k, rfl⟩ : ∃ m, k = m + 1 := ⟨k - 1, by omega⟩
    have hlt : i < l.length := by omega
    simp only [outofssa_distinct.l0]
    rw [if_pos (by omega), if_pos (by omega), if_pos (by omega), if_pos (by omega), rd_get l i hlt, w64 i l.length hlt hm, Int.toNat_natCast,
      contains_f _ _ k (by rw [List.length_take]; omega) (by rw [List.length_take]; omega), Option.bind_some]
    have h1 := nodup_take_succ l i hlt hn
    by_cases e : l[i] ∈ l.take i
    · rw [if_pos (by simp [e])]
      have : ¬ l.Nodup := fun h2 => (h1.1 (h2.sublist (List.take_sublist _ _))) e
      simp [this]
    · rw [if_neg (by simp [e])]
      exact ih k (i + 1) (by omega) (by omega) (h1.2 e)
theorem distinct_f (l : List Int) (k : Nat) (hm : l.length < 4611686018427387904) (hk : l.length + l.length < k) : outofssa_distinct.f k l = some (decide l.Nodup) :=
  distinct_l0 l hm l.length k 0 (by omega) hk (by simp)

theorem count_l0 (l : List Int) (v : Int) (hm : l.length < 4611686018427387904) : ∀ (d k i : Nat) (acc : Nat), i + d = l.length → d < k → acc ≤ i →
    burnishref26_count.l0 k v acc l (l.length : Int) i = some ((acc + (l.drop i).count v : Nat) : Int) := by
  intro d
  induction d with
  | zero =>
    intro k i acc hi hk ha
    obtain ⟨k, rfl⟩ : ∃ m, k = m + 1 := ⟨k - 1, by omega⟩
    simp only [burnishref26_count.l0]
    rw [if_neg (by omega), List.drop_eq_nil_of_le (by omega)]
    simp
  | succ d ih =>
    intro k i acc hi hk ha
    obtain ⟨k, rfl⟩ : ∃ m, k = m + 1 := ⟨k - 1, by omega⟩
    have hlt : i < l.length := by omega
    simp only [burnishref26_count.l0]
    rw [if_pos (by omega), if_pos (by omega), if_pos (by omega), rd_get l i hlt, w64 i l.length hlt hm, List.drop_eq_getElem_cons hlt]
    by_cases e : l[i] = v
    · rw [if_pos e, w64 acc l.length (by omega) hm, ih k (i + 1) (acc + 1) (by omega) (by omega) (by omega), e, List.count_cons_self]
      congr 2; omega
    · rw [if_neg e, ih k (i + 1) acc (by omega) (by omega) (by omega), List.count_cons_of_ne e]
theorem count_f (l : List Int) (v : Int) (k : Nat) (hm : l.length < 4611686018427387904) (hk : l.length < k) : burnishref26_count.f k l v = some ((l.count v : Nat) : Int) := by
  have := count_l0 l v hm l.length k 0 0 (by omega) hk (Nat.le_refl _)
  rw [List.drop_zero, Nat.zero_add] at this
  exact this

theorem pairs_l0 (a b : List Int) (hab : a.length = b.length) (hm : a.length < 4611686018427387904) : ∀ (d k i : Nat), i + d = a.length → d < k →
    outofssa_pairs.l0 k a b ((List.zipWith S50.mk a b).take i ++ List.replicate d z50) (a.length : Int) i = some (List.zipWith S50.mk a b) := by
  intro d
  have hz : (List.zipWith S50.mk a b).length = a.length := by simp [hab]
  induction d with
  | zero =>
    intro k i hi hk
    obtain ⟨k, rfl⟩ : ∃ m, k = m + 1 := ⟨k - 1, by omega⟩
    simp only [outofssa_pairs.l0]
    rw [if_neg (by omega), List.take_of_length_le (by omega)]
    simp
  | succ d ih =>
    intro k i hi hk
    obtain ⟨k, rfl⟩ : ∃ m, k = m + 1 := ⟨k - 1, by omega⟩
    have hlt : i < a.length := by omega
    have hlb : i < b.length := by omega
    have hl : ((List.zipWith S50.mk a b).take i ++ List.replicate (d + 1) z50).length = a.length := by simp [hab]; omega
    simp only [outofssa_pairs.l0]
    rw [if_pos (by omega), if_pos (by omega), if_pos (by omega), if_pos (by omega), if_pos (by rw [hl]; omega), rd_get a i hlt, rd_get b i hlb, w64 i a.length hlt hm, Int.toNat_natCast]
    have e : ((List.zipWith S50.mk a b).take i ++ List.replicate (d + 1) z50).set i ⟨a[i], b[i]⟩ = (List.zipWith S50.mk a b).take (i + 1) ++ List.replicate d z50 := by
      have e1 : ((List.zipWith S50.mk a b).take i).length = i := by rw [List.length_take]; omega
      rw [List.set_append_right _ _ (by omega), e1, Nat.sub_self, List.replicate_succ, List.set_cons_zero, List.take_succ_eq_append_getElem (by omega), List.append_assoc]
      simp
    rw [e]
    exact ih k (i + 1) (by omega) (by omega)
theorem pairs_f (a b : List Int) (hab : a.length = b.length) (k : Nat) (hm : a.length ≤ 17592186044416) (hk : a.length < k) : outofssa_pairs.f k a b = some (List.zipWith S50.mk a b) := by
  unfold outofssa_pairs.f
  rw [if_pos (by omega), if_pos (by omega), Int.toNat_natCast]
  simpa using pairs_l0 a b hab (by omega) a.length k 0 (by omega) hk

def cp (t : Int) (p : S50) : S28 := ⟨4, t, p.f0, [p.f1], 0, 0, 0, false⟩
theorem copies_l0 (l : List S50) (t : Int) (hm : l.length < 1759218604441) : ∀ (d k i : Nat), i + d = l.length → d < k →
    outofssa_copies.l0 k t ((l.take i).map (cp t)) l (l.length : Int) i = some (l.map (cp t)) := by
  intro d
  induction d with
  | zero =>
    intro k i hi hk
    obtain ⟨k, rfl⟩ : ∃ m, k = m + 1 := ⟨k - 1, by omega⟩
    simp only [outofssa_copies.l0]
    rw [if_neg (by omega), List.take_of_length_le (by omega)]
  | succ d ih =>
    intro k i hi hk
    obtain ⟨k, rfl⟩ : ∃ m, k = m + 1 := ⟨k - 1, by omega⟩
    have hlt : i < l.length := by omega
    have e : rd_T50 l (i : Int) = l[i] := by simp [rd_T50, hlt]
    simp only [outofssa_copies.l0]
    rw [if_pos (by omega), if_pos (by omega), if_pos (by omega), if_pos (by rw [List.length_map, List.length_take]; omega), e, w64 i l.length hlt (by omega)]
    have e2 : (l.take i).map (cp t) ++ [(⟨4, t, l[i].f0, [l[i].f1], 0, 0, 0, false⟩ : S28)] = (l.take (i + 1)).map (cp t) := by
      rw [List.take_succ_eq_append_getElem hlt, List.map_append]; rfl
    rw [e2]
    exact ih k (i + 1) (by omega) (by omega)
theorem copies_f (l : List S50) (t : Int) (k : Nat) (hm : l.length < 1759218604441) (hk : l.length < k) : outofssa_copies.f k l t = some (l.map (cp t)) := by
  have := copies_l0 l t hm l.length k 0 (by omega) hk
  exact this

theorem equal_l0 (l : List Int) (hm : l.length < 4611686018427387904) : ∀ (d k i : Nat), i + d = l.length → d < k → slices_Equal_int_int.l0 k l l (l.length : Int) i = some true := by
  intro d
  induction d with
  | zero =>
    intro k i hi hk
    obtain ⟨k, rfl⟩ : ∃ m, k = m + 1 := ⟨k - 1, by omega⟩
    simp only [slices_Equal_int_int.l0]
    rw [if_neg (by omega)]
  | succ d ih =>
    intro k i hi hk
    obtain ⟨k, rfl⟩ : ∃ m, k = m + 1 := ⟨k - 1, by omega⟩
    have hlt : i < l.length := by omega
    simp only [slices_Equal_int_int.l0]
    rw [if_pos (by omega), if_pos (by omega), if_pos (by omega), if_pos (by omega), if_pos trivial, w64 i l.length hlt hm]
    exact ih k (i + 1) (by omega) (by omega)
theorem same_f (x : S28) (k : Nat) (hm : x.f3.length < 4611686018427387904) (hk : x.f3.length < k) :
    burnishlaw26_same.f k x.f0 x.f1 x.f2 x.f3 x.f4 x.f5 x.f6 x.f7 x.f0 x.f1 x.f2 x.f3 x.f4 x.f5 x.f6 x.f7 = some true := by
  unfold burnishlaw26_same.f slices_Equal_int_int.f
  rw [if_pos rfl, if_pos rfl, if_pos rfl, if_pos rfl, if_pos rfl, if_pos rfl, if_pos (by simp), if_pos rfl]
  have := equal_l0 x.f3 hm x.f3.length k 0 (by omega) hk
  rw [show slices_Equal_int_int.l0 k x.f3 x.f3 (x.f3.length : Int) 0 = some true from this]
  rfl
end Go.Proofs.Ytlmendmncfibfaa
