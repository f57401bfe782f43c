/- The hash is that of the reference, and one changed byte changes it: over numbers and lists alone. -/
import Derived.Test.YtkjjkmipgpoijaaPInternHashx1
import Derived.Laws.BitsAllLaws
set_option linter.unusedVariables false
set_option linter.unusedSimpArgs false
namespace Go.Proofs.Ytkjjkmipgpoijaa.HashPure
open Go.RowKit Go.Proofs.YtkjjkmipgpoijaaW.PrintWords Go.Proofs.Ytkjjkmipgpoijaa.PInternHash

def M : Nat := 18446744073709551616
def step (h : Nat) (x : Int) : Nat := ((h ^^^ x.toNat) * 1099511628211) % M
def fnv (l : List Int) : Nat := l.foldl step 14695981039346656037
theorem step_lt (h : Nat) (x : Int) : step h x < M := Nat.mod_lt _ (by decide)
theorem wrap_u64 (n : Int) : IntKind.u64.wrap n = n % 18446744073709551616 := by
  simp [IntKind.wrap, IntKind.bits, IntKind.signed]
theorem step_int (h : Nat) (x : Int) (hh : h < M) (h0 : 0 ≤ x) (h1 : x < 256) : IntKind.u64.wrap ((Go.bits .xor .u64 h (IntKind.u64.wrap x)) * 1099511628211) = (step h x : Int) := by
  have e : IntKind.u64.wrap x = x := by rw [wrap_u64]; omega
  rw [e, u64_xor (h : Int) x (by omega) (by unfold M at hh; omega) h0 (by omega), wrap_u64]
  unfold step M
  simp

theorem loop (l : List Int) (hl : ∀ x ∈ l, 0 ≤ x ∧ x < 256) (hn : l.length ≤ 3000) : ∀ (d k i h : Nat), i + d = l.length → d < k → h < M →
    intern_Hash.l0 k l (h : Int) (l.length : Int) (i : Int) = some (((l.drop i).foldl step h : Nat) : Int) := by
  intro d
  induction d with
  | zero =>
    intro k i h hi hk hh
    obtain ⟨k, rfl⟩ : ∃ m, k = m + 1 := ⟨k - 1, by omega⟩
    simp only [intern_Hash.l0]
    rw [if_neg (by omega), List.drop_of_length_le (by omega)]
    rfl
  | succ d ih =>
    intro k i h hi hk hh
    obtain ⟨k, rfl⟩ : ∃ m, k = m + 1 := ⟨k - 1, by omega⟩
    have hlt : i < l.length := by omega
    have hx := hl l[i] (List.getElem_mem hlt)
    have hr : rd l (i : Int) = l[i] := by simp [rd, hlt]
    simp only [intern_Hash.l0]
    rw [if_pos (by omega), if_pos (by omega), if_pos (by omega), hr, step_int h _ hh hx.1 hx.2]
    have e : wrap64 ((i : Int) + 1) = ((i + 1 : Nat) : Int) := by unfold wrap64; omega
    rw [e, ih k (i + 1) (step h l[i]) (by omega) (by omega) (step_lt _ _), List.drop_eq_getElem_cons hlt]
    rfl
theorem rloop (l : List Int) (hl : ∀ x ∈ l, 0 ≤ x ∧ x < 256) (hn : l.length ≤ 3000) : ∀ (d k i h : Nat), i + d = l.length → d < k → h < M →
    burnishref04_Hash.l0 k l (h : Int) (i : Int) = some (((l.drop i).foldl step h : Nat) : Int) := by
  intro d
  induction d with
  | zero =>
    intro k i h hi hk hh
    obtain ⟨k, rfl⟩ : ∃ m, k = m + 1 := ⟨k - 1, by omega⟩
    simp only [burnishref04_Hash.l0]
    rw [if_neg (by omega), List.drop_of_length_le (by omega)]
    rfl
  | succ d ih =>
    intro k i h hi hk hh
    obtain ⟨k, rfl⟩ : ∃ m, k = m + 1 := ⟨k - 1, by omega⟩
    have hlt : i < l.length := by omega
    have hx := hl l[i] (List.getElem_mem hlt)
    have hr : rd l (i : Int) = l[i] := by simp [rd, hlt]
    simp only [burnishref04_Hash.l0]
    rw [if_pos (by omega), if_pos (by omega), hr, step_int h _ hh hx.1 hx.2]
    have e : wrap64 ((i : Int) + 1) = ((i + 1 : Nat) : Int) := by unfold wrap64; omega
    rw [e, ih k (i + 1) (step h l[i]) (by omega) (by omega) (step_lt _ _), List.drop_eq_getElem_cons hlt]
    rfl
theorem hash_f (l : List Int) (hl : ∀ x ∈ l, 0 ≤ x ∧ x < 256) (hn : l.length ≤ 3000) : intern_Hash.f (l.length + 1) l = some (fnv l : Int) := by
  have h := loop l hl hn l.length (l.length + 1) 0 14695981039346656037 (by omega) (by omega) (by decide)
  exact h
theorem rhash_f (l : List Int) (hl : ∀ x ∈ l, 0 ≤ x ∧ x < 256) (hn : l.length ≤ 3000) : burnishref04_Hash.f (l.length + 1) l = some (fnv l : Int) := by
  have h := rloop l hl hn l.length (l.length + 1) 0 14695981039346656037 (by omega) (by omega) (by decide)
  exact h

theorem mul_inj (a b : Nat) (ha : a < M) (hb : b < M) (h : (a * 1099511628211) % M = (b * 1099511628211) % M) : a = b := by
  have key : ∀ c : Nat, c < M → ((c * 1099511628211) % M * 14886173955864302971) % M = c := by
    intro c hc
    rw [Nat.mod_mul_mod, Nat.mul_assoc]
    have e : 1099511628211 * 14886173955864302971 = M * 887285111055 + 1 := by decide
    rw [e, Nat.mul_add, Nat.mul_one, ← Nat.mul_assoc, Nat.mul_comm c M, Nat.mul_assoc, Nat.mul_add_mod]
    exact Nat.mod_eq_of_lt hc
  have h1 := key a ha
  rw [h, key b hb] at h1
  exact h1.symm
theorem xor_r {a b c : Nat} (h : a ^^^ c = b ^^^ c) : a = b := by
  have : (a ^^^ c) ^^^ c = (b ^^^ c) ^^^ c := by rw [h]
  rwa [Nat.xor_assoc, Nat.xor_assoc, Nat.xor_self, Nat.xor_zero, Nat.xor_zero] at this
theorem xor_l {a b c : Nat} (h : c ^^^ a = c ^^^ b) : a = b := xor_r (c := c) (by rw [Nat.xor_comm a c, Nat.xor_comm b c]; exact h)
theorem xor_lt {a b : Nat} (ha : a < M) (hb : b < M) : a ^^^ b < M := Nat.xor_lt_two_pow (n := 64) ha hb
theorem step_inj_h {h h' : Nat} {x : Int} (hh : h < M) (hh' : h' < M) (hx : x.toNat < M) (e : step h x = step h' x) : h = h' := by
  have := mul_inj _ _ (xor_lt hh hx) (xor_lt hh' hx) e
  exact xor_r this
theorem step_inj_x {h : Nat} {x y : Int} (hh : h < M) (hx : x.toNat < M) (hy : y.toNat < M) (e : step h x = step h y) : x.toNat = y.toNat := by
  have := mul_inj _ _ (xor_lt hh hx) (xor_lt hh hy) e
  exact xor_l this
theorem fold_inj (r : List Int) (hr : ∀ x ∈ r, 0 ≤ x ∧ x < 256) : ∀ (h h' : Nat), h < M → h' < M → r.foldl step h = r.foldl step h' → h = h' := by
  induction r with
  | nil => intro h h' _ _ e; exact e
  | cons a r ih =>
    intro h h' hh hh' e
    have h1 := ih (fun x hx => hr x (List.mem_cons_of_mem _ hx)) _ _ (step_lt h a) (step_lt h' a) e
    have := hr a List.mem_cons_self
    exact step_inj_h hh hh' (by unfold M; omega) h1
theorem fold_lt (r : List Int) : ∀ (h : Nat), h < M → r.foldl step h < M := by
  induction r with
  | nil => intro h hh; exact hh
  | cons a r ih => intro h hh; exact ih _ (step_lt h a)
/-- One changed byte changes the hash. -/
theorem fnv_set (l : List Int) (hl : ∀ x ∈ l, 0 ≤ x ∧ x < 256) (i : Nat) (hi : i < l.length) (y : Int) (h0 : 0 ≤ y) (h1 : y < 256) (hne : y ≠ l[i]) : fnv (l.set i y) ≠ fnv l := by
  intro e
  have s1 : l = l.take i ++ l[i] :: l.drop (i + 1) := by rw [← List.drop_eq_getElem_cons hi, List.take_append_drop]
  have s2 : l.set i y = l.take i ++ y :: l.drop (i + 1) := by rw [List.set_eq_take_append_cons_drop, if_pos hi]
  unfold fnv at e
  rw [s2] at e
  conv at e => rhs; rw [s1]
  rw [List.foldl_append, List.foldl_append, List.foldl_cons, List.foldl_cons] at e
  have hb := fold_lt (l.take i) 14695981039346656037 (by decide)
  have hx := hl l[i] (List.getElem_mem hi)
  have e2 := fold_inj (l.drop (i + 1)) (fun x hx => hl x (List.mem_of_mem_drop hx)) _ _ (step_lt _ _) (step_lt _ _) e
  have e3 := step_inj_x hb (by unfold M; omega) (by unfold M; omega) e2
  omega
theorem xor_ne (x y : Int) (h0 : 0 ≤ x) (h1 : x < 256) (h2 : 0 ≤ y) (h3 : y < 256) (hy : y ≠ 0) : 0 ≤ Go.bits .xor .u8 x y ∧ Go.bits .xor .u8 x y < 256 ∧ Go.bits .xor .u8 x y ≠ x := by
  rw [u8_xor x y h0 h1 h2 h3]
  have hb : x.toNat ^^^ y.toNat < 2 ^ 8 := Nat.xor_lt_two_pow (by omega) (by omega)
  refine ⟨by omega, by omega, fun e => ?_⟩
  have e1 : x.toNat ^^^ y.toNat = x.toNat ^^^ 0 := by rw [Nat.xor_zero]; omega
  have := xor_l e1
  omega
end Go.Proofs.Ytkjjkmipgpoijaa.HashPure
