/- The reference's size and unzigzag, as printed, are what RdPure says. -/
import Derived.Test.YtjcekelmbpenkaaPVarintReadsx1
import Derived.Test.YtjcekelmbpenkaaRdPure
set_option linter.unusedVariables false
set_option linter.unusedSimpArgs false
namespace Go.Proofs.Ytjcekelmbpenkaa.VarPure
open Go.RowKit Go.Proofs.YtjcekelmbpenkaaW.PrintWords Go.Proofs.Ytjcekelmbpenkaa.PVarintReads

theorem rd_nat (l : List Int) (j : Nat) : rd l (j : Int) = l.getD j 0 := by simp [rd]
theorem j1_f (l : List Int) (k : Nat) (hl : l.length ≤ 1000000) : burnishref02_size.j1 (k + 1) l (cnt 10 l : Nat) = some (((szf l).1 : Int), (szf l).2) := by
  obtain ⟨b1, b2⟩ := cnt_le 10 l
  rw [szf]
  simp only [burnishref02_size.j1, rd_nat]
  have hw : wrap64 ((cnt 10 l : Nat) + 1 : Int) = ((cnt 10 l + 1 : Nat) : Int) := by unfold wrap64; omega
  rw [hw]
  by_cases h1 : cnt 10 l = 10
  · rw [if_pos (by omega), if_pos h1]; rfl
  rw [if_neg (by omega), if_neg h1]
  by_cases h2 : cnt 10 l = l.length
  · rw [if_pos (by omega), if_pos h2]; rfl
  rw [if_neg (by omega), if_neg h2]
  by_cases h3 : 0 < cnt 10 l
  · rw [if_pos (by omega), if_pos (by omega), if_pos (by omega)]
    by_cases h4 : l.getD (cnt 10 l) 0 = 0
    · rw [if_pos h4, if_pos (.inl ⟨h3, h4⟩)]; rfl
    rw [if_neg h4]
    by_cases h5 : cnt 10 l = 9
    · rw [if_pos (by omega)]
      by_cases h6 : l.getD (cnt 10 l) 0 = 1
      · rw [if_pos h6, if_neg (by rintro (⟨_, a⟩ | ⟨_, a⟩); exact h4 a; exact a h6)]
      · rw [if_neg h6, if_pos (.inr ⟨h5, h6⟩)]; rfl
    · rw [if_neg (by omega), if_neg (by rintro (⟨_, a⟩ | ⟨a, _⟩); exact h4 a; exact h5 a)]
  · rw [if_neg (by omega), if_neg (by omega), if_neg (by omega)]
theorem l0_f (l : List Int) (hl : l.length ≤ 1000000) : ∀ (d j k : Nat), j + d = cnt 10 l → d + 1 < k → burnishref02_size.l0 k l (j : Int) = some (((szf l).1 : Int), (szf l).2) := by
  obtain ⟨b1, b2⟩ := cnt_le 10 l
  obtain ⟨s1, s2⟩ := cnt_spec 10 l
  intro d
  induction d with
  | zero =>
    intro j k hj hk
    obtain ⟨k, rfl⟩ : ∃ m, k = m + 2 := ⟨k - 2, by omega⟩
    obtain rfl : j = cnt 10 l := by omega
    have hj1 := j1_f l k hl
    simp only [burnishref02_size.l0, rd_nat]
    by_cases h1 : cnt 10 l < l.length
    · rw [if_pos (by omega)]
      by_cases h2 : cnt 10 l < 10
      · have hx := List.getElem?_eq_getElem h1
        have := s2 h2 _ hx
        have hg : l.getD (cnt 10 l) 0 = l[cnt 10 l] := by simp [h1]
        rw [if_pos (by omega), if_pos (by omega), hg, if_neg (by omega), hj1]
      · rw [if_neg (by omega), hj1]
    · rw [if_neg (by omega), hj1]
  | succ d ih =>
    intro j k hj hk
    obtain ⟨k, rfl⟩ : ∃ m, k = m + 1 := ⟨k - 1, by omega⟩
    have h1 : j < l.length := by omega
    have hx := List.getElem?_eq_getElem h1
    have := s1 j _ (by omega) hx
    have hg : l.getD j 0 = l[j] := by simp [h1]
    simp only [burnishref02_size.l0, rd_nat]
    rw [if_pos (by omega), if_pos (by omega), if_pos (by omega), hg, if_pos (by omega)]
    have hw : wrap64 ((j : Int) + 1) = ((j + 1 : Nat) : Int) := by unfold wrap64; omega
    rw [hw]
    exact ih (j + 1) k (by omega) (by omega)
theorem rsize_f (l : List Int) (hl : l.length ≤ 1000000) : burnishref02_size.f 12 l = some (((szf l).1 : Int), (szf l).2) := by
  obtain ⟨b1, b2⟩ := cnt_le 10 l
  exact l0_f l hl (cnt 10 l) 0 12 (by omega) (by omega)
theorem runzz_f (z : Nat) (hz : z < 18446744073709551616) : burnishref02_unzigzag.f (z : Int) = some (uzz z) := by
  unfold burnishref02_unzigzag.f uzz
  have e1 : Int.tmod (z : Int) 2 = ((z % 2 : Nat) : Int) := by rw [Int.tmod_eq_emod_of_nonneg (by omega)]; omega
  have e2 : Int.tdiv (z : Int) 2 = ((z / 2 : Nat) : Int) := by rw [Int.tdiv_eq_ediv_of_nonneg (by omega)]; omega
  rw [e1, e2]
  by_cases h : z % 2 = 0
  · rw [if_pos (by omega), if_pos h]
    congr 1
    rw [wrap_u64]; unfold wrap64; omega
  · rw [if_neg (by omega), if_neg h]
    congr 1
    rw [wrap_u64]; unfold wrap64; omega
end Go.Proofs.Ytjcekelmbpenkaa.VarPure
