/- Sets of small numbers as lists of Bools and as words of 64 bits: plain facts. -/
import Derived.Laws.Entries
import Derived.Lib.TrailingZeros
set_option linter.unusedVariables false
set_option linter.unusedSimpArgs false
namespace Go.Proofs.Ytjkclhpibielfaa.Bit

def bw (f : Nat → Bool) : Nat → Nat
  | 0 => 0
  | j + 1 => 2 ^ j * (if f j then 1 else 0) + bw f j
theorem bw_lt (f : Nat → Bool) : ∀ m, bw f m < 2 ^ m
  | 0 => by simp [bw]
  | m + 1 => by
    have := bw_lt f m
    unfold bw
    rw [Nat.pow_succ]
    split <;> omega
theorem bw_bit (f : Nat → Bool) : ∀ m j, (bw f m).testBit j = (decide (j < m) && f j)
  | 0, j => by simp [bw]
  | m + 1, j => by
    have h1 := bw_lt f m
    unfold bw
    rw [Nat.testBit_two_pow_mul_add _ h1]
    by_cases hj : j < m
    · rw [if_pos hj, bw_bit f m j]
      simp [hj]
      intro _; omega
    · rw [if_neg hj]
      by_cases he : j = m
      · subst he
        simp
        by_cases hf : f j <;> simp [hf]
      · have h2 : ¬ j < m + 1 := by omega
        obtain ⟨d, hd⟩ : ∃ d, j - m = d + 1 := ⟨j - m - 1, by omega⟩
        rw [hd]
        simp [h2]
        split <;> simp [Nat.testBit_succ]
theorem bw_ext {f g : Nat → Bool} {m : Nat} (h : ∀ j, j < m → f j = g j) : bw f m = bw g m := by
  apply Nat.eq_of_testBit_eq
  intro j
  rw [bw_bit, bw_bit]
  by_cases hj : j < m
  · simp [h j hj]
  · simp [hj]

def wd (bs : List Bool) (k : Nat) : Nat := bw (fun j => bs.getD (64 * k + j) false) 64
theorem wd_lt (bs : List Bool) (k : Nat) : wd bs k < 18446744073709551616 := bw_lt _ 64
theorem wd_bit (bs : List Bool) (k j : Nat) : (wd bs k).testBit j = (decide (j < 64) && bs.getD (64 * k + j) false) := bw_bit _ 64 j
def wds (bs : List Bool) : List Int := (List.range ((bs.length + 63) / 64)).map fun k => ((wd bs k : Nat) : Int)
theorem wds_length (bs : List Bool) : (wds bs).length = (bs.length + 63) / 64 := by simp [wds]
theorem wds_get (bs : List Bool) (k : Nat) (h : k < (bs.length + 63) / 64) : (wds bs)[k]? = some ((wd bs k : Nat) : Int) := by
  simp [wds, h]
theorem wds_getD (bs : List Bool) (k : Nat) (h : k < (bs.length + 63) / 64) : (wds bs).getD k 0 = ((wd bs k : Nat) : Int) := by
  rw [List.getD_eq_getElem?_getD, wds_get bs k h]; rfl

/-- The four bit operations on numbers below 2^64. -/
theorem wrap_u (n : Nat) (h : n < 18446744073709551616) : IntKind.u64.wrap (n : Int) = n := by
  simp [IntKind.wrap, IntKind.signed, IntKind.bits]; omega
theorem ofInt_nat (a : Nat) : BitVec.ofInt 64 (a : Int) = BitVec.ofNat 64 a := by simp
def opv (op : BinOp) (a b : Nat) : Nat :=
  match op with
  | .and => (BitVec.ofNat 64 a &&& BitVec.ofNat 64 b).toNat
  | .or => (BitVec.ofNat 64 a ||| BitVec.ofNat 64 b).toNat
  | .xor => (BitVec.ofNat 64 a ^^^ BitVec.ofNat 64 b).toNat
  | _ => (BitVec.ofNat 64 a &&& ~~~ BitVec.ofNat 64 b).toNat
theorem opv_lt (op : BinOp) (a b : Nat) : opv op a b < 18446744073709551616 := by
  unfold opv; split <;> exact BitVec.isLt _
theorem bits_nat (op : BinOp) (a b : Nat) : bits op .u64 (a : Int) (b : Int) = (opv op a b : Nat) := by
  unfold bits opv
  have e : IntKind.u64.bits = 64 := rfl
  cases op <;> exact wrap_u _ (BitVec.isLt _)
def bop (op : BinOp) (x y : Bool) : Bool :=
  match op with
  | .and => x && y
  | .or => x || y
  | .xor => x ^^ y
  | _ => x && !y
theorem opv_bit (op : BinOp) (a b j : Nat) : (opv op a b).testBit j = (decide (j < 64) && bop op (a.testBit j) (b.testBit j)) := by
  unfold opv bop
  by_cases hj : j < 64
  · cases op <;> (simp only [BitVec.testBit_toNat, BitVec.getLsbD_and, BitVec.getLsbD_or, BitVec.getLsbD_xor, BitVec.getLsbD_not, BitVec.getLsbD_ofNat, hj, decide_true, Bool.true_and])
  · cases op <;> (simp only [BitVec.testBit_toNat, BitVec.getLsbD_and, BitVec.getLsbD_or, BitVec.getLsbD_xor, BitVec.getLsbD_not, BitVec.getLsbD_ofNat, hj, decide_false, Bool.false_and]; try rfl)
theorem eq_of_bits {a b : Nat} (ha : a < 18446744073709551616) (hb : b < 18446744073709551616) (h : ∀ j, j < 64 → a.testBit j = b.testBit j) : a = b := by
  apply Nat.eq_of_testBit_eq
  intro j
  by_cases hj : j < 64
  · exact h j hj
  · have h2 : (2 : Nat) ^ 64 ≤ 2 ^ j := Nat.pow_le_pow_right (by omega) (by omega)
    rw [Nat.testBit_lt_two_pow (by omega), Nat.testBit_lt_two_pow (by omega)]

/-- Has. -/
theorem shr_nat (a i : Nat) : (a : Int) / 2 ^ i = ((a / 2 ^ i : Nat) : Int) := by
  rw [Int.natCast_ediv, Int.natCast_pow]; rfl
theorem has_word (bs : List Bool) (i : Nat) : bits .and .u64 (((wd bs (i / 64) : Nat) : Int) / 2 ^ (i % 64)) 1 = if bs.getD i false then 1 else 0 := by
  rw [shr_nat, show (1 : Int) = ((1 : Nat) : Int) from rfl, bits_nat]
  have h0 : opv .and (wd bs (i / 64) / 2 ^ (i % 64)) 1 = if bs.getD i false then 1 else 0 := by
    apply Nat.eq_of_testBit_eq
    intro j
    rw [opv_bit]
    have e : 64 * (i / 64) + i % 64 = i := by omega
    have h64 : i % 64 < 64 := by omega
    cases j with
    | zero =>
      have h5 := wd_bit bs (i / 64) (i % 64)
      rw [e] at h5
      simp only [bop, ← Nat.shiftRight_eq_div_pow, Nat.testBit_shiftRight, Nat.add_zero, h5]
      generalize bs.getD i false = b
      cases b <;> simp [h64]
    | succ j =>
      have h1 : Nat.testBit 1 (j + 1) = false := by simp [Nat.testBit_succ]
      simp only [bop, h1, Bool.and_false]
      split
      · exact h1.symm
      · simp
  rw [h0]
  split <;> rfl

theorem getD_past (bs : List Bool) (i : Nat) (h : bs.length ≤ i) : bs.getD i false = false := by
  rw [List.getD_eq_getElem?_getD, List.getElem?_eq_none h]; rfl
theorem getD_lt (bs : List Bool) (i : Nat) (h : i < bs.length) : bs.getD i false = bs[i] := by
  rw [List.getD_eq_getElem?_getD, List.getElem?_eq_getElem h]; rfl
theorem set_getD (bs : List Bool) (i j : Nat) (b : Bool) (hi : i < bs.length) : (bs.set i b).getD j false = if i = j then b else bs.getD j false := by
  simp only [List.getD_eq_getElem?_getD, List.getElem?_set]
  by_cases h : i = j
  · subst h; simp [hi]
  · simp [h]
theorem one_shl (j : Nat) (h : j < 64) : IntKind.u64.wrap (1 * 2 ^ j) = ((2 ^ j : Nat) : Int) := by
  have h2 : (2 : Nat) ^ j < 2 ^ 64 := Nat.pow_lt_pow_right (by omega) h
  rw [Int.one_mul, show (2 : Int) ^ j = ((2 ^ j : Nat) : Int) by simp]
  exact wrap_u _ h2
theorem wds_set (bs : List Bool) (i : Nat) (hi : i < bs.length) (b : Bool) (v : Nat) (hv : v < 18446744073709551616)
    (h : ∀ j, j < 64 → v.testBit j = if j = i % 64 then b else (wd bs (i / 64)).testBit j) : (wds bs).set (i / 64) (v : Int) = wds (bs.set i b) := by
  apply List.ext_getElem?
  intro k
  by_cases hk : k < (bs.length + 63) / 64
  · rw [wds_get _ _ (by simpa using hk), List.getElem?_set]
    by_cases he : i / 64 = k
    · subst he
      rw [if_pos rfl, if_pos (by rw [wds_length]; exact hk)]
      have h6 : v = wd (bs.set i b) (i / 64) := by
        refine eq_of_bits hv (wd_lt _ _) (fun j hj => ?_)
        rw [h j hj, wd_bit, wd_bit, set_getD _ _ _ _ hi]
        by_cases hj2 : j = i % 64
        · have : i = 64 * (i / 64) + j := by omega
          rw [if_pos hj2, if_pos this, decide_eq_true hj, Bool.true_and]
        · have : ¬ i = 64 * (i / 64) + j := by omega
          rw [if_neg hj2, if_neg this]
      rw [h6]
    · rw [if_neg he, wds_get _ _ hk]
      have h6 : wd bs k = wd (bs.set i b) k := by
        refine eq_of_bits (wd_lt _ _) (wd_lt _ _) (fun j hj => ?_)
        rw [wd_bit, wd_bit, set_getD _ _ _ _ hi, if_neg (by omega)]
      rw [h6]
  · rw [List.getElem?_eq_none (by simp [wds_length]; omega), List.getElem?_eq_none (by simp [wds_length]; omega)]
theorem wds_add (bs : List Bool) (i : Nat) (hi : i < bs.length) : (wds bs).set (i / 64) (bits .or .u64 ((wd bs (i / 64) : Nat) : Int) (IntKind.u64.wrap (2 ^ (i % 64)))) = wds (bs.set i true) := by
  rw [← Int.one_mul (2 ^ (i % 64)), one_shl _ (by omega), bits_nat]
  refine wds_set bs i hi true _ (opv_lt _ _ _) (fun j hj => ?_)
  rw [opv_bit, Nat.testBit_two_pow]
  by_cases h : i % 64 = j
  · rw [if_pos h.symm, decide_eq_true h, decide_eq_true hj]; simp [bop]
  · have h' : ¬ j = i % 64 := fun e => h e.symm
    rw [if_neg h', decide_eq_false h, decide_eq_true hj]; simp [bop]
theorem wds_remove (bs : List Bool) (i : Nat) (hi : i < bs.length) : (wds bs).set (i / 64) (bits .andNot .u64 ((wd bs (i / 64) : Nat) : Int) (IntKind.u64.wrap (2 ^ (i % 64)))) = wds (bs.set i false) := by
  rw [← Int.one_mul (2 ^ (i % 64)), one_shl _ (by omega), bits_nat]
  refine wds_set bs i hi false _ (opv_lt _ _ _) (fun j hj => ?_)
  rw [opv_bit, Nat.testBit_two_pow]
  by_cases h : i % 64 = j
  · rw [if_pos h.symm, decide_eq_true h, decide_eq_true hj]; simp [bop]
  · have h' : ¬ j = i % 64 := fun e => h e.symm
    rw [if_neg h', decide_eq_false h, decide_eq_true hj]; simp [bop]

/-- Two sets of one capacity, word by word. -/
def zipB (op : BinOp) (bs cs : List Bool) : List Bool := List.zipWith (bop op) bs cs
theorem zipB_length (op : BinOp) (bs cs : List Bool) (h : bs.length = cs.length) : (zipB op bs cs).length = bs.length := by simp [zipB, h]
theorem zipB_getD (op : BinOp) (bs cs : List Bool) (h : bs.length = cs.length) (i : Nat) : (zipB op bs cs).getD i false = bop op (bs.getD i false) (cs.getD i false) := by
  simp only [zipB, List.getD_eq_getElem?_getD, List.getElem?_zipWith]
  by_cases hi : i < bs.length
  · simp [hi, h ▸ hi]
  · have h1 : bs[i]? = none := List.getElem?_eq_none (by omega)
    have h2 : cs[i]? = none := List.getElem?_eq_none (by omega)
    rw [h1, h2]
    cases op <;> rfl
theorem wd_zip (op : BinOp) (bs cs : List Bool) (h : bs.length = cs.length) (k : Nat) : wd (zipB op bs cs) k = opv op (wd bs k) (wd cs k) := by
  refine eq_of_bits (wd_lt _ _) (opv_lt _ _ _) (fun j hj => ?_)
  rw [wd_bit, opv_bit, wd_bit, wd_bit, zipB_getD op bs cs h]
  simp [hj]
theorem wds_inj {bs cs : List Bool} (hl : bs.length = cs.length) (h : wds bs = wds cs) : bs = cs := by
  have key : ∀ i, bs.getD i false = cs.getD i false := by
    intro i
    by_cases hi : i < bs.length
    · have hk : i / 64 < (bs.length + 63) / 64 := by omega
      have h1 := wds_get bs (i / 64) hk
      rw [h, wds_get cs (i / 64) (by omega)] at h1
      have h2 : wd cs (i / 64) = wd bs (i / 64) := Int.ofNat.inj (Option.some.inj h1)
      have h3 := wd_bit bs (i / 64) (i % 64)
      have h4 := wd_bit cs (i / 64) (i % 64)
      rw [h2, h3] at h4
      have e : 64 * (i / 64) + i % 64 = i := by omega
      have h7 : i % 64 < 64 := by omega
      rw [e, decide_eq_true h7, Bool.true_and, Bool.true_and] at h4
      exact h4
    · rw [getD_past _ _ (by omega), getD_past _ _ (by omega)]
  apply List.ext_getElem hl
  intro i h1 h2
  have h8 := key i
  rw [getD_lt _ _ h1, getD_lt _ _ h2] at h8
  exact h8

/-- The elements below m, in order. -/
def elemsTo (bs : List Bool) (m : Nat) : List Int := ((List.range m).filter (fun i : Nat => bs.getD i false)).map fun i : Nat => (i : Int)
def elems (bs : List Bool) : List Int := elemsTo bs bs.length
theorem elemsTo_zero (bs : List Bool) : elemsTo bs 0 = [] := rfl
theorem elemsTo_succ (bs : List Bool) (m : Nat) : elemsTo bs (m + 1) = elemsTo bs m ++ if bs.getD m false then [(m : Int)] else [] := by
  unfold elemsTo
  rw [List.range_succ, List.filter_append, List.map_append]
  congr 1
  rw [List.filter_cons, List.filter_nil]
  cases h : bs.getD m false <;> rfl
theorem elemsTo_gap (bs : List Bool) (a : Nat) : ∀ d, (∀ j, a ≤ j → j < a + d → bs.getD j false = false) → elemsTo bs (a + d) = elemsTo bs a
  | 0, _ => rfl
  | d + 1, h => by
    rw [← Nat.add_assoc, elemsTo_succ, h (a + d) (by omega) (by omega), elemsTo_gap bs a d (fun j h1 h2 => h j h1 (by omega))]
    simp
theorem elemsTo_past (bs : List Bool) (m : Nat) (h : bs.length ≤ m) : elemsTo bs m = elems bs := by
  obtain ⟨d, rfl⟩ := Nat.exists_eq_add_of_le h
  exact elemsTo_gap bs _ d (fun j h1 _ => by simp [List.getD_eq_getElem?_getD, List.getElem?_eq_none h1])
theorem elemsTo_prefix (bs : List Bool) (a d : Nat) : ∃ l, elemsTo bs (a + d) = elemsTo bs a ++ l := by
  induction d with
  | zero => exact ⟨[], by simp⟩
  | succ d ih =>
    obtain ⟨l, hl⟩ := ih
    exact ⟨_, by rw [← Nat.add_assoc, elemsTo_succ, hl, List.append_assoc]⟩
theorem elemsTo_length (bs : List Bool) (m : Nat) : (elemsTo bs m).length ≤ m := by
  unfold elemsTo
  rw [List.length_map]
  exact Nat.le_trans (List.length_filter_le _ _) (by simp)
theorem elems_length (bs : List Bool) : (elems bs).length ≤ bs.length := elemsTo_length _ _

/-- Word k of a set, the bits below t taken out. -/
def wfr (bs : List Bool) (k t : Nat) : Nat := bw (fun j => decide (t ≤ j) && bs.getD (64 * k + j) false) 64
theorem wfr_lt (bs : List Bool) (k t : Nat) : wfr bs k t < 18446744073709551616 := bw_lt _ 64
theorem wfr_bit (bs : List Bool) (k t j : Nat) : (wfr bs k t).testBit j = (decide (j < 64) && (decide (t ≤ j) && bs.getD (64 * k + j) false)) := bw_bit _ 64 j
theorem wfr_zero (bs : List Bool) (k : Nat) : wfr bs k 0 = wd bs k := bw_ext (fun j _ => by simp)
theorem wfr_done (bs : List Bool) (k t : Nat) (ht : t ≤ 64) (h : wfr bs k t = 0) : elemsTo bs (64 * (k + 1)) = elemsTo bs (64 * k + t) := by
  have e : 64 * (k + 1) = (64 * k + t) + (64 - t) := by omega
  rw [e]
  refine elemsTo_gap bs _ _ (fun j h1 h2 => ?_)
  have := wfr_bit bs k t (j - 64 * k)
  rw [h] at this
  have e2 : 64 * k + (j - 64 * k) = j := by omega
  rw [e2] at this
  simpa [show j - 64 * k < 64 by omega, show t ≤ j - 64 * k by omega] using this.symm
theorem wfr_next (bs : List Bool) (k t : Nat) (h : wfr bs k t ≠ 0) : ∃ c, Lib.ctz 64 (wfr bs k t) = c ∧ t ≤ c ∧ c < 64 ∧ bs.getD (64 * k + c) false = true ∧
    elemsTo bs (64 * k + c) = elemsTo bs (64 * k + t) ∧ bits .and .u64 ((wfr bs k t : Nat) : Int) (((wfr bs k t - 1 : Nat)) : Int) = ((wfr bs k (c + 1) : Nat) : Int) ∧ wfr bs k (c + 1) < wfr bs k t := by
  obtain ⟨m, hm, hc⟩ := Lib.ctzFrom_spec 64 (wfr bs k t) (by omega) (wfr_lt bs k t)
  refine ⟨Lib.ctzFrom 64 (wfr bs k t), by simp [Lib.ctz, h], ?_⟩
  obtain ⟨c, hce⟩ : ∃ c, c = Lib.ctzFrom 64 (wfr bs k t) := ⟨_, rfl⟩
  rw [← hce] at hm hc ⊢
  clear hce
  have hbit : ∀ j, (wfr bs k t).testBit j = (decide (j ≥ c) && (2 * m + 1).testBit (j - c)) := by
    intro j
    rw [hm, Nat.testBit_two_pow_mul]
  have hcb : (wfr bs k t).testBit c = true := by rw [hbit]; simp
  have hcb' := hcb
  rw [wfr_bit] at hcb'
  simp only [Bool.and_eq_true, decide_eq_true_eq] at hcb'
  have hlow : ∀ j, j < c → (wfr bs k t).testBit j = false := fun j hj => by rw [hbit]; simp; omega
  have hpow : 0 < 2 ^ c := Nat.pow_pos (by omega)
  have hm1 : wfr bs k t - 1 = 2 ^ c * (2 * m) + (2 ^ c - 1) := by
    rw [hm, Nat.mul_add, Nat.mul_one]; omega
  have hand : opv .and (wfr bs k t) (wfr bs k t - 1) = wfr bs k (c + 1) := by
    refine eq_of_bits (opv_lt _ _ _) (wfr_lt _ _ _) (fun j hj => ?_)
    have hfrom : (wfr bs k (c + 1)).testBit j = (decide (c + 1 ≤ j) && (wfr bs k t).testBit j) := by
      rw [wfr_bit, wfr_bit]
      by_cases h1 : c + 1 ≤ j
      · simp [h1, hj, show t ≤ j by omega]
      · simp [h1]
    rw [opv_bit, hfrom]
    simp only [bop, hj, decide_true, Bool.true_and]
    rw [hm1, Nat.testBit_two_pow_mul_add _ (show 2 ^ c - 1 < 2 ^ c by omega)]
    by_cases h1 : j < c
    · rw [hlow j h1]; simp
    · rw [if_neg h1]
      by_cases h2 : j = c
      · subst h2
        rw [hcb]
        simp
      · obtain ⟨d, hd⟩ : ∃ d, j - c = d + 1 := ⟨j - c - 1, by omega⟩
        rw [hbit, hd, Nat.testBit_succ, Nat.testBit_succ]
        have h3 : c + 1 ≤ j := by omega
        simp [h3, show c ≤ j by omega, show (2 * m + 1) / 2 = m by omega]
  refine ⟨hcb'.2.1, hc, hcb'.2.2, ?_, ?_, ?_⟩
  · obtain ⟨d, hd⟩ := Nat.exists_eq_add_of_le hcb'.2.1
    rw [hd, ← Nat.add_assoc]
    refine elemsTo_gap bs _ d (fun j h1 h2 => ?_)
    have h3 := hlow (j - 64 * k) (by omega)
    rw [wfr_bit, show 64 * k + (j - 64 * k) = j by omega] at h3
    simpa [show j - 64 * k < 64 by omega, show t ≤ j - 64 * k by omega] using h3
  · rw [bits_nat, hand]
  · rw [← hand]
    refine Nat.lt_of_le_of_lt (m := wfr bs k t - 1) ?_ (by omega)
    unfold opv
    rw [BitVec.toNat_and, BitVec.toNat_ofNat, BitVec.toNat_ofNat]
    refine Nat.le_trans Nat.and_le_right ?_
    exact Nat.mod_le _ _
end Go.Proofs.Ytjkclhpibielfaa.Bit
