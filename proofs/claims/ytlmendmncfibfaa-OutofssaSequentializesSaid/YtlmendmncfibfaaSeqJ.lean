/- The reference's free and count. -/
import Derived.Test.YtlmendmncfibfaaSeqI
set_option linter.unusedVariables false
set_option linter.unusedSimpArgs false
namespace Go.Proofs.Ytlmendmncfibfaa
open Go.RowKit Go.Proofs.YtlmendmncfibfaaW.PrintWords Go.Proofs.Ytlmendmncfibfaa.POutofssaSequentializes Mem

def t45 (q : S50) : S45 := ⟨q.f0, q.f1⟩
def frI (l : List S50) : Int := match fr l with | some i => (i : Int) | none => -1
theorem rd45 (l : List S50) (i : Nat) (h : i < l.length) : rd_T45 (l.map t45) (i : Int) = t45 l[i] := by simp [rd_T45, h]
theorem free_l1 (l : List S50) (hm : l.length < 4611686018427387904) (i : Nat) (hi : i < l.length) (x8 : Int) : ∀ (d k j : Nat) (u : Bool), j + d = l.length → d < k →
    burnishref26_free.l1 k (l.map t45) i u (l.length : Int) x8 (l.length : Int) j = if (u || (l.drop j).any (fun q => q.f1 == l[i].f0)) = true then burnishref26_free.l0 (k - d - 1) (l.map t45) (l.length : Int) (wrap64 (x8 + 1)) else some (i : Int) := by
  intro d
  induction d with
  | zero =>
    intro k j u hj hk
    obtain ⟨k, rfl⟩ : ∃ m, k = m + 1 := ⟨k - 1, by omega⟩
    simp only [burnishref26_free.l1]
    rw [if_neg (by omega), List.drop_eq_nil_of_le (by omega)]
    simp
  | succ d ih =>
    intro k j u hj hk
    obtain ⟨k, rfl⟩ : ∃ m, k = m + 1 := ⟨k - 1, by omega⟩
    have hlt : j < l.length := by omega
    have ek : k + 1 - (d + 1) - 1 = k - d - 1 := by omega
    simp only [burnishref26_free.l1]
    rw [if_pos (by omega), ek, List.drop_eq_getElem_cons hlt, w64 j l.length hlt hm]
    cases u with
    | true =>
      rw [if_pos rfl, ih k (j + 1) true (by omega) (by omega)]
      simp
    | false =>
      rw [if_neg (by simp), if_pos (by omega), if_pos (by rw [List.length_map]; omega), if_pos (by omega), if_pos (by rw [List.length_map]; omega), rd45 l j hlt, rd45 l i hi, ih k (j + 1) _ (by omega) (by omega)]
      rw [List.any_cons, Bool.false_or]; rfl
theorem free_l0 (l : List S50) (hm : l.length < 4611686018427387904) : ∀ (d k i : Nat), i + d = l.length → d * (l.length + 2) < k → (∀ j (h : j < l.length), j < i → isFree l l[j] = false) →
    burnishref26_free.l0 k (l.map t45) (l.length : Int) i = some (frI l) := by
  intro d
  induction d with
  | zero =>
    intro k i hi hk h0
    obtain ⟨k, rfl⟩ : ∃ m, k = m + 1 := ⟨k - 1, by omega⟩
    simp only [burnishref26_free.l0]
    rw [if_neg (by omega)]
    unfold frI
    rw [fr_miss l (fun j h => h0 j h (by omega))]
  | succ d ih =>
    intro k i hi hk h0
    obtain ⟨k, rfl⟩ : ∃ m, k = m + 1 := ⟨k - 1, by omega⟩
    have hlt : i < l.length := by omega
    rw [Nat.succ_mul] at hk
    simp only [burnishref26_free.l0]
    rw [if_pos (by omega), List.length_map]
    have h1 := free_l1 l hm i hlt (i : Int) l.length k 0 false (by omega) (by omega)
    rw [show ((0 : Nat) : Int) = 0 from rfl] at h1
    rw [h1, List.drop_zero, Bool.false_or]
    by_cases hu : (l.any fun q => q.f1 == l[i].f0) = true
    · rw [if_pos hu, w64 i l.length hlt hm]
      refine ih _ (i + 1) (by omega) (by omega) (fun j h hj => ?_)
      rcases Nat.lt_or_ge j i with h5 | h5
      · exact h0 j h h5
      · obtain rfl : j = i := by omega
        unfold isFree; rw [hu]; rfl
    · rw [if_neg hu]
      unfold frI
      rw [fr_hit l i hlt h0 (by unfold isFree; rw [Bool.eq_false_iff.2 hu]; rfl)]
theorem free_f (l : List S50) (k : Nat) (hm : l.length < 4611686018427387904) (hk : l.length * (l.length + 2) < k) : burnishref26_free.f k (l.map t45) = some (frI l) := by
  unfold burnishref26_free.f
  rw [List.length_map]
  exact free_l0 l hm l.length k 0 (by omega) hk (fun j h hj => by omega)
theorem free_any (A : Option Addr) (c : Nat) (l : List S50) (w : World) (hC : Kd.C k45 w A (l.map t45).length (l.map t45)) (hc : (l.map t45).length ≤ c) (hm : l.length ≤ 1000000) :
    Calls Try.prog 17 #[.slice A (l.map t45).length c] w fun e w' => e = .returned (.int .i64 (frI l)) ∧ ∃ q, w' = w.drewN q :=
  (burnishref26_free.calls (l.length * (l.length + 2) + 1) A c (l.map t45) (frI l) w hC hc (free_f l _ (by omega) (by omega))).mono fun e w' h => ⟨h.1, h.2.out⟩
theorem count_any (A : Option Addr) (c : Nat) (l : List Int) (v : Int) (w : World) (hC : Kd.C (Kd.int .i64) w A l.length l) (hc : l.length ≤ c) (hm : l.length ≤ 1000000) :
    Calls Try.prog 16 #[.slice A l.length c, .int .i64 v] w fun e w' => e = .returned (.int .i64 ((l.count v : Nat) : Int)) ∧ ∃ q, w' = w.drewN q :=
  (burnishref26_count.calls (l.length + 1) A c l v _ w hC hc (count_f l v _ (by omega) (by omega))).mono fun e w' h => ⟨h.1, h.2.out⟩
end Go.Proofs.Ytlmendmncfibfaa
