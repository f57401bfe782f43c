/- What is encoded is decoded; what is decoded was encoded; no encoding is a prefix of another. -/
import Derived.Test.YtjcekelmbpenkaaRdPure
set_option linter.unusedVariables false
set_option linter.unusedSimpArgs false
namespace Go.Proofs.Ytjcekelmbpenkaa.VarPure
open Go.RowKit

/-- What one encoding looks like in front of anything. -/
theorem encF_spec : ∀ (f z : Nat) (r : List Int), z < 128 ^ (f + 1) → ∃ k, (encF f z).length = k + 1 ∧ k ≤ f ∧ cnt (f + 1) (encF f z ++ r) = k ∧ valF (encF f z) = z ∧ (∀ x, (encF f z ++ r)[k]? = some x → 0 ≤ x ∧ (x : Int) = ((z / 128 ^ k : Nat) : Int) ∧ x < 128) ∧ (0 < k → 128 ^ k ≤ z) := by
  intro f
  induction f with
  | zero =>
    intro z r hz
    have hz' : z < 128 := by simpa using hz
    have e : encF 0 z = [(z : Int)] := by rw [encF, Nat.mod_eq_of_lt (by omega)]
    refine ⟨0, by rw [e]; rfl, Nat.le_refl _, ?_, ?_, ?_, by omega⟩
    · rw [e]
      show (if 128 ≤ (z : Int) then 1 + cnt 0 r else 0) = 0
      rw [if_neg (by omega)]
    · rw [e]; simp [valF]; omega
    · intro x hx
      rw [e] at hx
      simp at hx
      subst hx
      refine ⟨by omega, by simp, by omega⟩
  | succ f ih =>
    intro z r hz
    by_cases h : z < 128
    · have e : encF (f + 1) z = [(z : Int)] := by rw [encF, if_pos h]
      refine ⟨0, by rw [e]; rfl, by omega, ?_, ?_, ?_, by omega⟩
      · rw [e]
        show (if 128 ≤ (z : Int) then 1 + cnt (f + 1) r else 0) = 0
        rw [if_neg (by omega)]
      · rw [e]; simp [valF]; omega
      · intro x hx
        rw [e] at hx
        simp at hx
        subst hx
        refine ⟨by omega, by simp, by omega⟩
    · have e : encF (f + 1) z = ((z % 128 + 128 : Nat) : Int) :: encF f (z / 128) := by rw [encF, if_neg h]
      obtain ⟨k, h1, h2, h3, h4, h5, h6⟩ := ih (z / 128) r (by rw [Nat.pow_succ] at hz; omega)
      refine ⟨k + 1, by rw [e]; simp [h1], by omega, ?_, ?_, ?_, ?_⟩
      · rw [e, List.cons_append, cnt, if_pos (by omega), h3]; omega
      · rw [e, valF, h4]; simp; omega
      · intro x hx
        rw [e, List.cons_append] at hx
        obtain ⟨g1, g2, g3⟩ := h5 x (by simpa using hx)
        refine ⟨g1, ?_, g3⟩
        rw [g2, Nat.div_div_eq_div_mul, Nat.pow_succ, Nat.mul_comm]
      · intro _
        rw [Nat.pow_succ]
        by_cases hk : 0 < k
        · have := h6 hk; omega
        · have : k = 0 := by omega
          subst this
          simp; omega

/-- One read of what was appended gives it back, and what follows. -/
theorem rdI_enc {n : Int} (h : I64 n) (r : List Int) : rdI (encI n ++ r) 0 = (n, r, 0) := by
  have hz := zz_lt h
  obtain ⟨k, h1, h2, h3, h4, h5, h6⟩ := encF_spec 9 (zz n) r (Nat.lt_of_lt_of_le hz (by decide))
  have e0 : encI n = encF 9 (zz n) := rfl
  have hlen : k < (encI n ++ r).length := by rw [e0, List.length_append, h1]; omega
  obtain ⟨x, hx⟩ : ∃ x, (encI n ++ r)[k]? = some x := ⟨_, List.getElem?_eq_getElem hlen⟩
  obtain ⟨g1, g2, g3⟩ := h5 x hx
  have hgd : (encI n ++ r).getD k 0 = x := by rw [List.getD_eq_getElem?_getD, hx]; rfl
  have hs : szf (encI n ++ r) = (k + 1, 0) := by
    rw [szf, show cnt 10 (encI n ++ r) = k from h3, if_neg (by omega), if_neg (by omega), if_neg]
    rw [hgd]
    rintro (⟨a, b⟩ | ⟨a, b⟩)
    · have := h6 a
      have : 0 < zz n / 128 ^ k := Nat.div_pos this (Nat.pos_of_ne_zero (by simp))
      omega
    · subst a
      have := h6 (by omega)
      have e1 : zz n / 128 ^ 9 < 2 := by omega
      have e2 : 0 < zz n / 128 ^ 9 := Nat.div_pos this (by decide)
      omega
  rw [rdI, if_neg (by simp), hs, if_neg (by simp)]
  have ht : (encI n ++ r).take (k + 1) = encI n := by rw [e0, ← h1, List.take_left]
  have hd : (encI n ++ r).drop (k + 1) = r := by rw [e0, ← h1, List.drop_left]
  rw [ht, hd, e0, h4, uzz_zz h]

theorem encF_val : ∀ (k f : Nat) (l : List Int), Bs l → l.length = k + 1 → k ≤ f → (∀ j x, j < k → l[j]? = some x → 128 ≤ x) → (∀ x, l[k]? = some x → x < 128 ∧ (0 < k → x ≠ 0)) → encF f (valF l) = l := by
  intro k
  induction k with
  | zero =>
    intro f l hb hl hf h1 h2
    match l, hl with
    | [x], _ =>
      obtain ⟨g1, _⟩ := h2 x rfl
      have hx := (hb x (by simp)).1
      have hv : valF [x] = x.toNat := by simp [valF]; omega
      rw [hv]
      cases f with
      | zero => rw [encF]; congr 1; omega
      | succ f => rw [encF, if_pos (by omega)]; congr 1; omega
  | succ k ih =>
    intro f l hb hl hf h1 h2
    obtain ⟨f, rfl⟩ : ∃ g, f = g + 1 := ⟨f - 1, by omega⟩
    match l, hl with
    | x :: r, hl =>
      have hx := h1 0 x (by omega) rfl
      have hxb := hb x (by simp)
      have hr := ih f r (fun y hy => hb y (by simp [hy])) (by simpa using hl) (by omega) (fun j y hj hy => h1 (j + 1) y (by omega) (by simpa using hy)) (fun y hy => by
        obtain ⟨g1, g2⟩ := h2 y (by simpa using hy)
        exact ⟨g1, fun _ => g2 (by omega)⟩)
      have hpos : 0 < valF r := by
        rcases Nat.eq_zero_or_pos (valF r) with h0 | h0
        · exfalso
          have hk : k < r.length := by simp at hl; omega
          have hxk := List.getElem?_eq_getElem hk
          obtain ⟨g1, g2⟩ := h2 r[k] (by simp [hxk])
          have hb2 := hb r[k] (by simp)
          have e : r = r.take k ++ [r[k]] := by
            rw [← List.take_succ_eq_append_getElem hk, List.take_of_length_le (by simp at hl; omega)]
          rw [e, valF_append] at h0
          have h0' : 128 ^ (r.take k).length * valF [r[k]] = 0 := by omega
          have h0'' : valF [r[k]] = 0 := (Nat.mul_eq_zero.1 h0').resolve_left (by simp)
          simp [valF] at h0''
          have := g2 (by omega)
          omega
        · exact h0
      have hv : valF (x :: r) = x.toNat % 128 + 128 * valF r := rfl
      rw [hv, encF, if_neg (by omega)]
      have e1 : (x.toNat % 128 + 128 * valF r) / 128 = valF r := by omega
      have e2 : (((x.toNat % 128 + 128 * valF r) % 128 + 128 : Nat) : Int) = x := by omega
      rw [e1, e2, hr]

/-- What a read without an error took is the encoding of what it gave. -/
theorem enc_rdI {l : List Int} (hb : Bs l) {n : Int} {r : List Int} (h : rdI l 0 = (n, r, 0)) : l = encI n ++ r ∧ I64 n := by
  have hI := rdI_I64 hb 0
  rw [h] at hI
  refine ⟨?_, hI⟩
  rw [rdI, if_neg (by simp)] at h
  by_cases hs : (szf l).2 = 0
  · rw [if_neg (by simpa using hs)] at h
    obtain ⟨h1, h2, h3, h4⟩ := szf_ok hs
    simp only [Prod.mk.injEq] at h
    obtain ⟨e1, e2, _⟩ := h
    rw [h1] at e1 e2
    obtain ⟨c1, c2⟩ := cnt_spec 10 l
    rw [← e1, ← e2, encI, zz_uzz]
    have := encF_val (cnt 10 l) 9 (l.take (cnt 10 l + 1)) (hb.take _) (by rw [List.length_take]; omega) (by omega) (fun j x hj hx => c1 j x hj (by
      rw [List.getElem?_take] at hx
      split at hx
      · exact hx
      · cases hx)) (fun x hx => by
      rw [List.getElem?_take, if_pos (by omega)] at hx
      refine ⟨c2 h2 x hx, fun hk h0 => h4 (.inl ⟨hk, ?_⟩)⟩
      rw [List.getD_eq_getElem?_getD, hx]
      exact h0)
    rw [this, List.take_append_drop]
  · rw [if_pos (by simpa using hs)] at h
    simp only [Prod.mk.injEq] at h
    exact absurd h.2.2 hs
/-- No encoding is a prefix of another one. -/
theorem enc_prefix {m n : Int} (hm : I64 m) (hn : I64 n) (h : encI m = (encI n).take (encI m).length) : m = n := by
  have e : encI n = encI m ++ (encI n).drop (encI m).length := by
    have := List.take_append_drop (encI m).length (encI n)
    rw [← h] at this
    exact this.symm
  have h1 := rdI_enc hn []
  rw [List.append_nil, e, rdI_enc hm] at h1
  exact (Prod.mk.inj h1).1
end Go.Proofs.Ytjcekelmbpenkaa.VarPure
