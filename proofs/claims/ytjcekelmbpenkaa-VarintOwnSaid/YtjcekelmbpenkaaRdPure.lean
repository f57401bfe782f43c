/- The decoding over numbers and lists alone. -/
import Derived.Test.YtjcekelmbpenkaaVarPure
set_option linter.unusedVariables false
set_option linter.unusedSimpArgs false
namespace Go.Proofs.Ytjcekelmbpenkaa.VarPure
open Go.RowKit

def cnt : Nat → List Int → Nat
  | 0, _ => 0
  | _ + 1, [] => 0
  | f + 1, x :: r => if 128 ≤ x then 1 + cnt f r else 0
def valF : List Int → Nat
  | [] => 0
  | x :: r => x.toNat % 128 + 128 * valF r
def uzz (z : Nat) : Int := if z % 2 = 0 then ((z / 2 : Nat) : Int) else -((z / 2 : Nat) : Int) - 1
def szf (l : List Int) : Nat × Int :=
  if cnt 10 l = 10 then (0, 3) else if cnt 10 l = l.length then (0, 4) else
  if (0 < cnt 10 l ∧ l.getD (cnt 10 l) 0 = 0) ∨ (cnt 10 l = 9 ∧ l.getD (cnt 10 l) 0 ≠ 1) then (0, 3) else (cnt 10 l + 1, 0)
/-- what the program's size answers: it does not look at the last byte -/
def szc (l : List Int) : Nat × Int :=
  if cnt 10 l = 10 then (0, 3) else if cnt 10 l = l.length then (0, 4) else (cnt 10 l + 1, 0)
def rdI (l : List Int) (f : Int) : Int × List Int × Int :=
  if f ≠ 0 then (0, l, f) else
  if (szf l).2 ≠ 0 then (0, [], (szf l).2) else (uzz (valF (l.take (szf l).1)), l.drop (szf l).1, 0)
def rdL (l : List Int) (f : Int) : Nat × List Int × Int :=
  if (rdI l f).2.2 ≠ 0 then (0, (rdI l f).2) else if (rdI l f).1 < 0 then (0, [], 3) else if ((rdI l f).2.1.length : Int) < (rdI l f).1 then (0, [], 4) else ((rdI l f).1.toNat, (rdI l f).2)
def rdN : Nat → List Int → Int → List Int × List Int × Int
  | 0, l, f => ([], l, f)
  | k + 1, l, f => ((rdI l f).1 :: (rdN k (rdI l f).2.1 (rdI l f).2.2).1, (rdN k (rdI l f).2.1 (rdI l f).2.2).2)
def rdIs (l : List Int) (f : Int) : List Int × List Int × Int :=
  let a := rdL l f
  let b := rdN a.1 a.2.1 a.2.2
  (if b.2.2 ≠ 0 then [] else b.1, b.2)
def rdS (l : List Int) (f : Int) : List Int × List Int × Int :=
  let a := rdL l f
  (a.2.1.take a.1, a.2.1.drop a.1, a.2.2)

def Bs (l : List Int) : Prop := ∀ x ∈ l, 0 ≤ x ∧ x < 256
theorem Bs.drop {l : List Int} (h : Bs l) (n : Nat) : Bs (l.drop n) := fun x hx => h x (List.mem_of_mem_drop hx)
theorem Bs.take {l : List Int} (h : Bs l) (n : Nat) : Bs (l.take n) := fun x hx => h x (List.mem_of_mem_take hx)

theorem cnt_le (f : Nat) (l : List Int) : cnt f l ≤ f ∧ cnt f l ≤ l.length := by
  induction f generalizing l with
  | zero => simp [cnt]
  | succ f ih =>
    cases l with
    | nil => simp [cnt]
    | cons x r =>
      have := ih r
      rw [cnt]
      split <;> simp <;> omega
/-- Below the count each byte goes on; at the count, if there is one, it ends. -/
theorem cnt_spec (f : Nat) (l : List Int) : (∀ j x, j < cnt f l → l[j]? = some x → 128 ≤ x) ∧ (cnt f l < f → ∀ x, l[cnt f l]? = some x → x < 128) := by
  induction f generalizing l with
  | zero => simp [cnt]
  | succ f ih =>
    cases l with
    | nil => simp [cnt]
    | cons x r =>
      obtain ⟨h1, h2⟩ := ih r
      rw [cnt]
      by_cases c : 128 ≤ x
      · rw [if_pos c]
        refine ⟨fun j y hj hy => ?_, fun hc y hy => ?_⟩
        · cases j with
          | zero => simp at hy; omega
          | succ j => exact h1 j y (by omega) (by simpa using hy)
        · rw [show 1 + cnt f r = cnt f r + 1 by omega] at hy
          exact h2 (by omega) y (by simpa using hy)
      · rw [if_neg c]
        refine ⟨fun j y hj hy => by omega, fun hc y hy => ?_⟩
        simp at hy; omega
theorem cnt_eq {f k : Nat} {l : List Int} (hk : k ≤ f) (hl : k ≤ l.length) (h1 : ∀ j x, j < k → l[j]? = some x → 128 ≤ x) (h2 : k < f → ∀ x, l[k]? = some x → x < 128) : cnt f l = k := by
  obtain ⟨g1, g2⟩ := cnt_spec f l
  obtain ⟨b1, b2⟩ := cnt_le f l
  rcases Nat.lt_trichotomy (cnt f l) k with h | h | h
  · have hx := List.getElem?_eq_getElem (l := l) (i := cnt f l) (by omega)
    have := h1 _ _ h hx
    have := g2 (by omega) _ hx
    omega
  · exact h
  · have hx := List.getElem?_eq_getElem (l := l) (i := k) (by omega)
    have := h2 (by omega) _ hx
    have := g1 _ _ h hx
    omega

theorem valF_lt (l : List Int) : valF l < 128 ^ l.length := by
  induction l with
  | nil => simp [valF]
  | cons x r ih =>
    rw [valF, List.length_cons, Nat.pow_succ]
    have : x.toNat % 128 < 128 := Nat.mod_lt _ (by omega)
    omega
theorem valF_append (l m : List Int) : valF (l ++ m) = valF l + 128 ^ l.length * valF m := by
  induction l with
  | nil => simp [valF]
  | cons x r ih =>
    rw [List.cons_append, valF, ih, valF, List.length_cons, Nat.pow_succ, Nat.mul_add, ← Nat.mul_assoc, Nat.mul_comm 128 (128 ^ r.length), Nat.add_assoc]
theorem szf_ok {l : List Int} (h : (szf l).2 = 0) : (szf l).1 = cnt 10 l + 1 ∧ cnt 10 l < 10 ∧ cnt 10 l < l.length ∧ ¬ ((0 < cnt 10 l ∧ l.getD (cnt 10 l) 0 = 0) ∨ (cnt 10 l = 9 ∧ l.getD (cnt 10 l) 0 ≠ 1)) := by
  obtain ⟨b1, b2⟩ := cnt_le 10 l
  unfold szf at h ⊢
  split at h
  · simp at h
  split at h
  · simp at h
  split at h
  · simp at h
  rename_i a b c
  rw [if_neg a, if_neg b, if_neg c]
  exact ⟨rfl, by omega, by omega, c⟩
theorem szf_le (l : List Int) : (szf l).1 ≤ l.length ∧ (szf l).1 ≤ 10 := by
  by_cases h : (szf l).2 = 0
  · obtain ⟨h1, h2, h3, _⟩ := szf_ok h
    omega
  · obtain ⟨b1, b2⟩ := cnt_le 10 l
    unfold szf at h ⊢
    split
    · simp
    split
    · simp
    split
    · simp
    · simp; omega
theorem szf_err (l : List Int) : (szf l).2 = 0 ∨ (szf l).2 = 3 ∨ (szf l).2 = 4 := by
  unfold szf
  split
  · simp
  split
  · simp
  split <;> simp
theorem val_lt {l : List Int} (hb : Bs l) (h : (szf l).2 = 0) : valF (l.take (szf l).1) < 18446744073709551616 := by
  obtain ⟨h1, h2, h3, h4⟩ := szf_ok h
  rw [h1]
  by_cases c : cnt 10 l < 9
  · refine Nat.lt_of_lt_of_le (valF_lt _) ?_
    rw [List.length_take, Nat.min_eq_left (by omega)]
    exact Nat.le_trans (Nat.pow_le_pow_right (by omega) (show cnt 10 l + 1 ≤ 9 by omega)) (by decide)
  · have e : cnt 10 l = 9 := by omega
    rw [e] at h3 h4 ⊢
    rw [List.take_succ_eq_append_getElem h3, valF_append]
    have e1 : l[9] = 1 := by
      have : l.getD 9 0 = l[9] := by simp [h3]
      rw [this] at h4
      omega
    have h5 := valF_lt (l.take 9)
    rw [List.length_take, Nat.min_eq_left (by omega)] at h5 ⊢
    rw [e1]
    simp only [valF]
    omega
/-- One more digit, by the program's bits. -/
theorem or_digit (z j : Nat) (y : Int) (hy : 0 ≤ y ∧ y < 256) (hz : z < 128 ^ j) (ht : z + 128 ^ j * (y.toNat % 128) < 18446744073709551616) :
    Go.bits .or .u64 (z : Int) (IntKind.u64.wrap (IntKind.u64.wrap (Go.bits .and .u8 y 127) * 2 ^ (7 * j))) = ((z + 128 ^ j * (y.toNat % 128) : Nat) : Int) := by
  obtain ⟨a, rfl⟩ := Int.eq_ofNat_of_zero_le hy.1
  have e1 : Go.bits .and .u8 (a : Int) 127 = ((a % 128 : Nat) : Int) := by
    rw [show (127 : Int) = ((127 : Nat) : Int) from rfl, u8_and_nat a 127 (by omega) (by omega), show a &&& 127 = a % 128 from Nat.and_two_pow_sub_one_eq_mod a 7]
  have e3 : (128 : Nat) ^ j = 2 ^ (7 * j) := by rw [show (128 : Nat) = 2 ^ 7 from rfl, ← Nat.pow_mul]
  have e2 : IntKind.u64.wrap ((a % 128 : Nat) : Int) = ((a % 128 : Nat) : Int) := by rw [wrap_u64]; omega
  rw [e1, e2]
  simp only [Int.toNat_natCast] at ht ⊢
  rw [e3] at hz ht ⊢
  have hm : ((a % 128 : Nat) : Int) * 2 ^ (7 * j) = ((2 ^ (7 * j) * (a % 128) : Nat) : Int) := by push_cast; rw [Int.mul_comm]
  rw [hm]
  have hw : IntKind.u64.wrap ((2 ^ (7 * j) * (a % 128) : Nat) : Int) = ((2 ^ (7 * j) * (a % 128) : Nat) : Int) := by
    rw [wrap_u64]; omega
  rw [hw, u64_or_nat _ _ (by omega) (by omega), Nat.or_comm, Nat.mul_comm, ← Nat.shiftLeft_eq, ← Nat.shiftLeft_add_eq_or_of_lt hz, Nat.add_comm]
theorem val_or {l : List Int} (hb : Bs l) {M : Nat} (hv : valF (l.take M) < 18446744073709551616) : ∀ j, j < M → ∀ y, l[j]? = some y →
    Go.bits .or .u64 (valF (l.take j) : Int) (IntKind.u64.wrap (IntKind.u64.wrap (Go.bits .and .u8 y 127) * 2 ^ (7 * j))) = (valF (l.take (j + 1)) : Int) := by
  intro j hj y hy
  have hjl := (List.getElem?_eq_some_iff.1 hy).1
  have hyl := (List.getElem?_eq_some_iff.1 hy).2
  have e : valF (l.take (j + 1)) = valF (l.take j) + 128 ^ j * (y.toNat % 128) := by
    rw [List.take_succ_eq_append_getElem hjl, valF_append, hyl, List.length_take, Nat.min_eq_left (by omega)]
    simp [valF]
  have e2 : valF (l.take (j + 1)) ≤ valF (l.take M) := by
    have : l.take M = l.take (j + 1) ++ (l.take M).drop (j + 1) := by
      have h := (List.take_append_drop (j + 1) (l.take M)).symm
      rwa [List.take_take, Nat.min_eq_left (by omega)] at h
    rw [this, valF_append]
    exact Nat.le_add_right _ _
  have hz := valF_lt (l.take j)
  rw [List.length_take, Nat.min_eq_left (by omega)] at hz
  have hyb := hb y (by rw [← hyl]; exact List.getElem_mem hjl)
  rw [e] at e2 ⊢
  exact or_digit _ j y hyb hz (by omega)
theorem szf_szc {l : List Int} {N : Nat} (h : szc l = (N + 1, 0)) : cnt 10 l = N ∧ N < 10 ∧ N < l.length := by
  obtain ⟨b1, b2⟩ := cnt_le 10 l
  unfold szc at h
  split at h
  · simp at h
  split at h
  · simp at h
  · simp at h
    omega
theorem uzz_I64 {z : Nat} (h : z < 18446744073709551616) : I64 (uzz z) := by
  unfold uzz I64; split <;> omega
theorem rdI_I64 {l : List Int} (hb : Bs l) (f : Int) : I64 (rdI l f).1 := by
  unfold rdI
  split
  · simp [I64]
  split
  · simp [I64]
  · rename_i h
    exact uzz_I64 (val_lt hb (by simpa using h))
theorem rdI_len (l : List Int) (f : Int) : (rdI l f).2.1.length ≤ l.length := by
  unfold rdI
  split
  · simp
  split
  · simp
  · simp
theorem rdI_Bs {l : List Int} (hb : Bs l) (f : Int) : Bs (rdI l f).2.1 := by
  unfold rdI
  split
  · exact hb
  split
  · intro x hx; simp at hx
  · exact hb.drop _
theorem rdL_le (l : List Int) (f : Int) : (rdL l f).1 ≤ (rdL l f).2.1.length ∧ (rdL l f).2.1.length ≤ l.length := by
  have := rdI_len l f
  unfold rdL
  split
  · simp; exact this
  split
  · simp
  split
  · simp
  · simp; omega
theorem rdL_Bs {l : List Int} (hb : Bs l) (f : Int) : Bs (rdL l f).2.1 := by
  unfold rdL
  split
  · exact rdI_Bs hb f
  split
  · intro x hx; simp at hx
  split
  · intro x hx; simp at hx
  · exact rdI_Bs hb f
theorem rdI_fail (l : List Int) {f : Int} (h : f ≠ 0) : rdI l f = (0, l, f) := by rw [rdI, if_pos h]
theorem rdN_fail (k : Nat) (l : List Int) {f : Int} (h : f ≠ 0) : (rdN k l f).2 = (l, f) := by
  induction k with
  | zero => rfl
  | succ k ih => rw [rdN, rdI_fail l h]; exact ih
theorem rdN_len (k : Nat) (l : List Int) (f : Int) : (rdN k l f).1.length = k := by
  induction k generalizing l f with
  | zero => rfl
  | succ k ih => rw [rdN]; simp [ih]
theorem rdN_left (k : Nat) (l : List Int) (f : Int) : (rdN k l f).2.1.length ≤ l.length := by
  induction k generalizing l f with
  | zero => simp [rdN]
  | succ k ih => rw [rdN]; exact Nat.le_trans (ih _ _) (rdI_len l f)
theorem rdN_Bs (k : Nat) {l : List Int} (hb : Bs l) (f : Int) : Bs (rdN k l f).2.1 := by
  induction k generalizing l f with
  | zero => exact hb
  | succ k ih => rw [rdN]; exact ih (rdI_Bs hb f) _
theorem rdN_I64 (k : Nat) {l : List Int} (hb : Bs l) (f : Int) : ∀ x ∈ (rdN k l f).1, I64 x := by
  induction k generalizing l f with
  | zero => simp [rdN]
  | succ k ih =>
    rw [rdN]
    intro x hx
    rcases List.mem_cons.1 hx with rfl | hx
    · exact rdI_I64 hb f
    · exact ih (rdI_Bs hb f) _ x hx
theorem rdN_snoc (k : Nat) (l : List Int) (f : Int) : rdN (k + 1) l f = ((rdN k l f).1 ++ [(rdI (rdN k l f).2.1 (rdN k l f).2.2).1], (rdI (rdN k l f).2.1 (rdN k l f).2.2).2) := by
  induction k generalizing l f with
  | zero => simp [rdN]
  | succ k ih =>
    rw [rdN, ih]
    simp [rdN]

/-! what is encoded is decoded, and what is decoded was encoded -/
theorem uzz_zz {n : Int} (h : I64 n) : uzz (zz n) = n := by
  obtain ⟨h1, h2⟩ := h
  unfold zz uzz
  split <;> split <;> omega
theorem zz_uzz (z : Nat) : zz (uzz z) = z := by
  unfold zz uzz
  split <;> split <;> omega
end Go.Proofs.Ytjcekelmbpenkaa.VarPure
