/- Lists and strings: what is encoded is decoded, and back. -/
import Derived.Test.YtjcekelmbpenkaaRtPure
set_option linter.unusedVariables false
set_option linter.unusedSimpArgs false
namespace Go.Proofs.Ytjcekelmbpenkaa.VarPure
open Go.RowKit Go.Proofs.YtjcekelmbpenkaaW.PrintWords

theorem rdL_enc {n : Nat} {r : List Int} (hn : n ≤ r.length) (hr : r.length ≤ 1000000) : rdL (encI n ++ r) 0 = (n, r, 0) := by
  have h := rdI_enc (n := (n : Int)) (by unfold I64; omega) r
  rw [rdL, h, if_neg (by simp), if_neg (by simp), if_neg (by simp; omega)]
  simp
theorem rdN_enc (q r : List Int) (h : ∀ x ∈ q, I64 x) : rdN q.length (q.flatMap encI ++ r) 0 = (q, r, 0) := by
  induction q with
  | nil => rfl
  | cons x t ih =>
    rw [List.length_cons, rdN, List.flatMap_cons, List.append_assoc, rdI_enc (h x (by simp))]
    rw [ih (fun y hy => h y (by simp [hy]))]
theorem flat_ge (l : List Int) : l.length ≤ (l.flatMap encI).length := by
  induction l with
  | nil => simp
  | cons a r ih => have := encI_len a; simp only [List.flatMap_cons, List.length_append, List.length_cons]; omega
theorem rdIs_enc {q r : List Int} (h : ∀ x ∈ q, I64 x) (hl : q.length ≤ 1000) (hr : r.length ≤ 10000) : rdIs (encL q ++ r) 0 = (q, r, 0) := by
  have h1 := flat_ge q
  have h2 := flat_len q
  rw [encL, List.append_assoc, rdIs, rdL_enc (by rw [List.length_append]; omega) (by rw [List.length_append]; omega)]
  simp only [rdN_enc q r h]
  simp
theorem rdS_enc {s : ByteArray} {r : List Int} (hs : s.size ≤ 10000) (hr : r.length ≤ 10000) : rdS (encS s ++ r) 0 = (bytesOf s, r, 0) := by
  have hb := bytesOf_length s
  rw [encS, List.append_assoc, rdS, rdL_enc (by rw [List.length_append]; omega) (by rw [List.length_append]; omega)]
  simp only
  rw [← hb, List.take_left, List.drop_left]

theorem rdL_back {l : List Int} (hb : Bs l) {n : Nat} {r : List Int} (h : rdL l 0 = (n, r, 0)) : l = encI n ++ r := by
  rw [rdL] at h
  by_cases h1 : (rdI l 0).2.2 ≠ 0
  · rw [if_pos h1] at h
    exact absurd (congrArg (fun x => x.2.2) h) h1
  rw [if_neg h1] at h
  by_cases h2 : (rdI l 0).1 < 0
  · rw [if_pos h2] at h
    exact absurd (congrArg (fun x => x.2.2) h) (by simp)
  rw [if_neg h2] at h
  by_cases h3 : ((rdI l 0).2.1.length : Int) < (rdI l 0).1
  · rw [if_pos h3] at h
    exact absurd (congrArg (fun x => x.2.2) h) (by simp)
  rw [if_neg h3] at h
  have e1 : (rdI l 0).1.toNat = n := congrArg (fun x => x.1) h
  have e2 : (rdI l 0).2.1 = r := congrArg (fun x => x.2.1) h
  have e3 : (rdI l 0).2.2 = 0 := congrArg (fun x => x.2.2) h
  have e4 : (rdI l 0).1 = (n : Int) := by omega
  exact (enc_rdI hb (n := (n : Int)) (r := r) (by rw [← e4, ← e2]; exact Prod.ext rfl (Prod.ext rfl e3))).1
theorem rdN_back : ∀ (n : Nat) (l q r : List Int), Bs l → rdN n l 0 = (q, r, 0) → l = q.flatMap encI ++ r ∧ q.length = n := by
  intro n
  induction n with
  | zero =>
    intro l q r hb h
    simp only [rdN, Prod.mk.injEq] at h
    obtain ⟨rfl, rfl, _⟩ := h
    exact ⟨rfl, rfl⟩
  | succ n ih =>
    intro l q r hb h
    rw [rdN] at h
    have hz : (rdI l 0).2.2 = 0 := by
      rcases Decidable.em ((rdI l 0).2.2 = 0) with h0 | h0
      · exact h0
      · have := rdN_fail n (rdI l 0).2.1 h0
        have h2 := congrArg (fun x => x.2) h
        simp only at h2
        rw [this] at h2
        exact absurd (congrArg (fun x => x.2) h2) h0
    rw [hz] at h
    obtain ⟨q', r', f', e⟩ : ∃ q' r' f', rdN n (rdI l 0).2.1 0 = (q', r', f') := ⟨_, _, _, rfl⟩
    rw [e] at h
    simp only [Prod.mk.injEq] at h
    obtain ⟨rfl, rfl, rfl⟩ := h
    obtain ⟨g1, g2⟩ := ih _ _ _ (rdI_Bs hb 0) e
    have g3 := (enc_rdI hb (n := (rdI l 0).1) (r := (rdI l 0).2.1) (Prod.ext rfl (Prod.ext rfl hz))).1
    refine ⟨?_, by simp [g2]⟩
    rw [List.flatMap_cons, List.append_assoc, ← g1]
    exact g3
theorem rdIs_back {l : List Int} (hb : Bs l) (h : (rdIs l 0).2.2 = 0) : l = encL (rdIs l 0).1 ++ (rdIs l 0).2.1 := by
  obtain ⟨n, r1, f1, e⟩ : ∃ n r1 f1, rdL l 0 = (n, r1, f1) := ⟨_, _, _, rfl⟩
  have hf : f1 = 0 := by
    rcases Decidable.em (f1 = 0) with h0 | h0
    · exact h0
    · have := rdN_fail n r1 h0
      rw [rdIs, e] at h
      simp only [this] at h
      exact h
  subst hf
  have h1 := rdL_back hb e
  have hb1 := rdL_Bs hb 0
  rw [e] at hb1
  rw [rdIs, e] at h ⊢
  simp only at h ⊢
  obtain ⟨q, r, f, e2⟩ : ∃ q r f, rdN n r1 0 = (q, r, f) := ⟨_, _, _, rfl⟩
  rw [e2] at h ⊢
  simp only at h ⊢
  subst h
  obtain ⟨g1, g2⟩ := rdN_back n r1 q r hb1 e2
  rw [if_neg (by simp), encL, g2, List.append_assoc, ← g1]
  exact h1
theorem rdS_back {l : List Int} (hb : Bs l) (h : (rdS l 0).2.2 = 0) : l = encI ((rdS l 0).1.length : Nat) ++ ((rdS l 0).1 ++ (rdS l 0).2.1) := by
  obtain ⟨n, r1, f1, e⟩ : ∃ n r1 f1, rdL l 0 = (n, r1, f1) := ⟨_, _, _, rfl⟩
  have hle := (rdL_le l 0).1
  rw [rdS, e] at h ⊢
  rw [e] at hle
  simp only at h hle ⊢
  subst h
  have h1 := rdL_back hb e
  rw [List.take_append_drop, List.length_take, Nat.min_eq_left hle]
  exact h1
end Go.Proofs.Ytjcekelmbpenkaa.VarPure
