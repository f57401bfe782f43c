/- The encoding over numbers and lists alone: what put and the reference's functions append. -/
import Derived.Test.YtjcekelmbpenkaaPVarintPrefixx1
import Derived.Laws.BitsAllLaws
set_option linter.unusedVariables false
set_option linter.unusedSimpArgs false
namespace Go.Proofs.Ytjcekelmbpenkaa.VarPure
open Go.RowKit Go.Proofs.YtjcekelmbpenkaaW.PrintWords Go.Proofs.Ytjcekelmbpenkaa.PVarintPrefix

def I64 (n : Int) : Prop := -9223372036854775808 ≤ n ∧ n ≤ 9223372036854775807
def zz (n : Int) : Nat := if 0 ≤ n then (2 * n).toNat else (-2 * n - 1).toNat
def encF : Nat → Nat → List Int
  | 0, z => [((z % 256 : Nat) : Int)]
  | f + 1, z => if z < 128 then [(z : Int)] else ((z % 128 + 128 : Nat) : Int) :: encF f (z / 128)
def encI (n : Int) : List Int := encF 9 (zz n)
def encL (l : List Int) : List Int := encI l.length ++ l.flatMap encI
def encS (s : ByteArray) : List Int := encI s.size ++ bytesOf s

theorem zz_lt {n : Int} (h : I64 n) : zz n < 18446744073709551616 := by
  unfold zz; obtain ⟨h1, h2⟩ := h; split <;> omega
theorem wrap_u64 (n : Int) : IntKind.u64.wrap n = n % 18446744073709551616 := by
  simp [IntKind.wrap, IntKind.bits, IntKind.signed]
theorem xor_ones (a : Nat) (h : a < 18446744073709551616) : a ^^^ 18446744073709551615 = 18446744073709551615 - a := by
  have e := congrArg BitVec.toNat (BitVec.xor_allOnes (x := BitVec.ofNat 64 a))
  rw [BitVec.toNat_xor, BitVec.toNat_not] at e
  simp only [BitVec.toNat_ofNat, BitVec.toNat_allOnes] at e
  rw [Nat.mod_eq_of_lt (by omega)] at e
  exact e
theorem zigzag_f {n : Int} (h : I64 n) : varint_zigzag.f n = some (zz n : Int) := by
  obtain ⟨h1, h2⟩ := h
  unfold varint_zigzag.f zz
  congr 1
  by_cases h0 : 0 ≤ n
  · rw [if_pos h0]
    have e1 : IntKind.u64.wrap (IntKind.u64.wrap n * 2) = 2 * n := by rw [wrap_u64, wrap_u64]; omega
    have e2 : IntKind.u64.wrap (n / 9223372036854775808) = 0 := by rw [wrap_u64]; omega
    rw [e1, e2, u64_xor _ _ (by omega) (by omega) (by omega) (by omega)]
    simp
  · rw [if_neg h0]
    have e1 : IntKind.u64.wrap (IntKind.u64.wrap n * 2) = 18446744073709551616 + 2 * n := by rw [wrap_u64, wrap_u64]; omega
    have e2 : IntKind.u64.wrap (n / 9223372036854775808) = 18446744073709551615 := by rw [wrap_u64]; omega
    rw [e1, e2, u64_xor _ _ (by omega) (by omega) (by omega) (by omega)]
    rw [show (18446744073709551615 : Int).toNat = 18446744073709551615 from rfl, xor_ones _ (by omega)]
    omega
theorem encF_len (f z : Nat) : 1 ≤ (encF f z).length ∧ (encF f z).length ≤ f + 1 := by
  induction f generalizing z with
  | zero => simp [encF]
  | succ f ih =>
    rw [encF]
    split
    · simp
    · have := ih (z / 128)
      simp; omega
theorem encI_len (n : Int) : 1 ≤ (encI n).length ∧ (encI n).length ≤ 10 := encF_len 9 _
theorem or128 (x : Nat) (h : x < 256) : Go.bits .or .u8 (x : Int) 128 = ((x % 128 + 128 : Nat) : Int) := by
  rw [show (128 : Int) = ((128 : Nat) : Int) from rfl, u8_or_nat x 128 h (by omega)]
  have e : ∀ y : Nat, y < 256 → y ||| 128 = y % 128 + 128 := by decide +kernel
  rw [e x h]
theorem put_loop : ∀ (f : Nat) (z : Nat) (l0 : List Int) (k : Nat), z < 128 ^ (f + 1) → f < k → l0.length + f + 1 < 140737488355328 → varint_put.l0 k l0 (z : Int) = some (l0 ++ encF f z) := by
  intro f
  induction f with
  | zero =>
    intro z l0 k hz hk hl
    obtain ⟨k, rfl⟩ : ∃ m, k = m + 1 := ⟨k - 1, by omega⟩
    simp only [varint_put.l0]
    rw [if_neg (by simp at hz; omega), if_pos (by omega)]
    simp [encF]
  | succ f ih =>
    intro z l0 k hz hk hl
    obtain ⟨k, rfl⟩ : ∃ m, k = m + 1 := ⟨k - 1, by omega⟩
    simp only [varint_put.l0, encF]
    by_cases h : z < 128
    · rw [if_neg (by omega), if_pos (by omega), if_pos h]
      congr 3
      omega
    · rw [if_pos (by omega), if_pos (by omega), if_neg h]
      have e1 : (z : Int) / 128 = ((z / 128 : Nat) : Int) := by omega
      have e2 : Go.bits .or .u8 ((z : Int) % 256) 128 = ((z % 128 + 128 : Nat) : Int) := by
        rw [show (z : Int) % 256 = ((z % 256 : Nat) : Int) by omega, or128 _ (by omega)]
        congr 2
        omega
      rw [e1, e2, ih (z / 128) _ k (by rw [Nat.pow_succ] at hz; omega) (by omega) (by simp; omega)]
      simp
theorem put_f {n : Int} (h : I64 n) (l0 : List Int) (hl : l0.length + 20 < 140737488355328) : varint_put.f 10 l0 n = some (l0 ++ encI n) := by
  unfold varint_put.f
  rw [zigzag_f h, Option.bind_some]
  exact put_loop 9 (zz n) l0 10 (Nat.lt_of_lt_of_le (zz_lt h) (by decide)) (by omega) (by omega)
theorem flat_len (l : List Int) : (l.flatMap encI).length ≤ 10 * l.length := by
  induction l with
  | nil => simp
  | cons a r ih => have := encI_len a; simp only [List.flatMap_cons, List.length_append, List.length_cons]; omega
theorem encL_len (l : List Int) : (encL l).length ≤ 10 * l.length + 10 := by
  have h1 := encI_len l.length
  have h2 := flat_len l
  rw [encL, List.length_append]; omega
theorem eq_loop (l m : List Int) (h : l.length = m.length) (hn : l.length ≤ 140737488355328) : ∀ (d i k : Nat), i + d = l.length → d < k → slices_Equal_byte_byte.l0 k l m (l.length : Int) (i : Int) = some (decide (l.drop i = m.drop i)) := by
  intro d
  induction d with
  | zero =>
    intro i k hi hk
    obtain ⟨k, rfl⟩ : ∃ m, k = m + 1 := ⟨k - 1, by omega⟩
    simp only [slices_Equal_byte_byte.l0]
    rw [if_neg (by omega), List.drop_of_length_le (by omega), List.drop_of_length_le (by omega)]
    simp
  | succ d ih =>
    intro i k hi hk
    obtain ⟨k, rfl⟩ : ∃ m, k = m + 1 := ⟨k - 1, by omega⟩
    have hlt : i < l.length := by omega
    have hlt2 : i < m.length := by omega
    have hr : rd l (i : Int) = l[i] := by simp [rd, hlt]
    have hr2 : rd m (i : Int) = m[i] := by simp [rd, hlt2]
    simp only [slices_Equal_byte_byte.l0]
    rw [if_pos (by omega), if_pos (by omega), if_pos (by omega), if_pos (by omega), hr, hr2, List.drop_eq_getElem_cons hlt, List.drop_eq_getElem_cons hlt2]
    by_cases e : l[i] = m[i]
    · rw [if_pos e]
      have e1 : wrap64 ((i : Int) + 1) = ((i + 1 : Nat) : Int) := by unfold wrap64; omega
      rw [e1, ih (i + 1) k (by omega) (by omega)]
      simp only [List.cons.injEq, e, true_and]
    · rw [if_neg e, decide_eq_false (fun h => e (List.cons.inj h).1)]
theorem eq_f (l m : List Int) (hn : l.length ≤ 140737488355328) : slices_Equal_byte_byte.f (l.length + 1) l m = some (decide (l = m)) := by
  unfold slices_Equal_byte_byte.f
  by_cases h : (l.length : Int) = (m.length : Int)
  · rw [if_pos h, show (0 : Int) = ((0 : Nat) : Int) from rfl, eq_loop l m (by omega) hn l.length 0 _ (by omega) (by omega)]
    simp
  · rw [if_neg h, decide_eq_false (fun e => h (by rw [e]))]
theorem eqi_loop (l m : List Int) (h : l.length = m.length) (hn : l.length ≤ 140737488355328) : ∀ (d i k : Nat), i + d = l.length → d < k → slices_Equal_int_int.l0 k l m (l.length : Int) (i : Int) = some (decide (l.drop i = m.drop i)) := by
  intro d
  induction d with
  | zero =>
    intro i k hi hk
    obtain ⟨k, rfl⟩ : ∃ m, k = m + 1 := ⟨k - 1, by omega⟩
    simp only [slices_Equal_int_int.l0]
    rw [if_neg (by omega), List.drop_of_length_le (by omega), List.drop_of_length_le (by omega)]
    simp
  | succ d ih =>
    intro i k hi hk
    obtain ⟨k, rfl⟩ : ∃ m, k = m + 1 := ⟨k - 1, by omega⟩
    have hlt : i < l.length := by omega
    have hlt2 : i < m.length := by omega
    have hr : rd l (i : Int) = l[i] := by simp [rd, hlt]
    have hr2 : rd m (i : Int) = m[i] := by simp [rd, hlt2]
    simp only [slices_Equal_int_int.l0]
    rw [if_pos (by omega), if_pos (by omega), if_pos (by omega), if_pos (by omega), hr, hr2, List.drop_eq_getElem_cons hlt, List.drop_eq_getElem_cons hlt2]
    by_cases e : l[i] = m[i]
    · rw [if_pos e]
      have e1 : wrap64 ((i : Int) + 1) = ((i + 1 : Nat) : Int) := by unfold wrap64; omega
      rw [e1, ih (i + 1) k (by omega) (by omega)]
      simp only [List.cons.injEq, e, true_and]
    · rw [if_neg e, decide_eq_false (fun h => e (List.cons.inj h).1)]
theorem eqi_f (l m : List Int) (hn : l.length ≤ 140737488355328) : slices_Equal_int_int.f (l.length + 1) l m = some (decide (l = m)) := by
  unfold slices_Equal_int_int.f
  by_cases h : (l.length : Int) = (m.length : Int)
  · rw [if_pos h, show (0 : Int) = ((0 : Nat) : Int) from rfl, eqi_loop l m (by omega) hn l.length 0 _ (by omega) (by omega)]
    simp
  · rw [if_neg h, decide_eq_false (fun e => h (by rw [e]))]
end Go.Proofs.Ytjcekelmbpenkaa.VarPure
