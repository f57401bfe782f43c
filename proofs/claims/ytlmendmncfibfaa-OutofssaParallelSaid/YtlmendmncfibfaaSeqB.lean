/- Package slices at pairs: IndexFunc, ContainsFunc; the closures of order. -/
import Derived.Test.YtlmendmncfibfaaSeqA
import Derived.Test.YtlmendmncfibfaaMem
set_option linter.unusedVariables false
set_option linter.unusedSimpArgs false
namespace Go.Proofs.Ytlmendmncfibfaa
open Go.RowKit Go.Proofs.YtlmendmncfibfaaW.PrintWords Go.Proofs.Ytlmendmncfibfaa.POutofssaSequentializes Mem

theorem order1_any (x : S50) (w : World) : Calls Try.prog 22 #[.agg #[.int .i64 x.f0, .int .i64 x.f1]] w fun e w' => e = .returned (.bool (x.f1 == x.f0)) ∧ Below w.heap.size w w' := by
  obtain ⟨a, b⟩ := x
  by_cases h : b = a
  · subst h
    go_enter Try.func22, Try.ntmps22
    go_wp2
    go_ret
    exact ⟨by simp, by repeat (first | exact Below.refl _ _ | apply below_alloc | apply pw_below_drewN | apply below_drew1)⟩
  · have h1 : (b == a) = false := by simpa using h
    have h2 : (a == b) = false := by simpa using fun e : a = b => h e.symm
    go_enter Try.func22, Try.ntmps22
    go_wp2
    go_ret
    exact ⟨by simp [h], by repeat (first | exact Below.refl _ _ | apply below_alloc | apply pw_below_drewN | apply below_drew1)⟩

theorem order2_any (B : Nat) (y x : S50) (w : World) (hc : w.cell? ⟨B, 0, none⟩ = some (.int .i64 y.f0)) :
    Calls Try.prog 23 #[.agg #[.int .i64 x.f0, .int .i64 x.f1], .pointer (some ⟨B, 0, none⟩)] w fun e w' => e = .returned (.bool (x.f1 == y.f0)) ∧ Below w.heap.size w w' := by
  obtain ⟨a, b⟩ := x
  obtain ⟨a2, b2⟩ := y
  have hc2 : (w.alloc (.cells #[.int .i64 a, .int .i64 b] 50)).cell? ⟨B, 0, none⟩ = some (.int .i64 a2) := ((Below.heap_alloc w (.cells #[.int .i64 a, .int .i64 b] 50) |> fun h => by
    have hlt := World.block_lt_of_cell? w ⟨B, 0, none⟩ hc
    have h1 := h B hlt
    simp only [World.cell?, h1] at hc ⊢
    exact hc) : _)
  go_enter Try.func23, Try.ntmps23
  go_wp2
  go_ret
  exact ⟨by simp, by repeat (first | exact Below.refl _ _ | apply below_alloc | apply pw_below_drewN | apply below_drew1)⟩

def idxF (p : S50 → Bool) (l : List S50) : Int := match l.findIdx? p with | some i => (i : Int) | none => -1
theorem idxF_ge (p : S50 → Bool) (l : List S50) : decide (idxF p l ≥ 0) = l.any p := by
  unfold idxF
  cases h : l.findIdx? p with
  | some i =>
    obtain ⟨hi, h1, _⟩ := List.findIdx?_eq_some_iff_getElem.1 h
    have : l.any p = true := List.any_eq_true.2 ⟨_, List.getElem_mem hi, h1⟩
    rw [this]
    simp
  | none =>
    have h1 := List.findIdx?_eq_none_iff.1 h
    have : l.any p = false := by
      rw [List.any_eq_false]
      intro x hx
      rw [h1 x hx]; simp
    rw [this]
    simp
theorem idxF_hit (p : S50 → Bool) (l : List S50) (k : Nat) (hk : k < l.length) (h0 : ∀ j (h : j < l.length), j < k → p l[j] = false) (h : p l[k] = true) : idxF p l = k := by
  have : l.findIdx? p = some k := List.findIdx?_eq_some_iff_getElem.2 ⟨hk, h, fun j hj => by rw [h0 j (by omega) hj]; simp⟩
  unfold idxF; rw [this]
theorem idxF_miss (p : S50 → Bool) (l : List S50) (h0 : ∀ j (h : j < l.length), p l[j] = false) : idxF p l = -1 := by
  have : l.findIdx? p = none := List.findIdx?_eq_none_iff.2 fun x hx => by
    obtain ⟨i, hi, rfl⟩ := List.mem_iff_getElem.1 hx
    exact h0 i hi
  unfold idxF; rw [this]
theorem at50 {w : World} {A : Option Addr} {xs : List S50} (h : Kd.C k50 w A xs.length xs) (k : Nat) (hk : k < xs.length) : ∃ ad, A = some ad ∧ w.cell? (ad.add (k * 2)) = some (.int .i64 (xs[k]).f0) ∧ w.cell? ⟨(ad.add (k * 2)).block, (ad.add (k * 2)).off + 1, none⟩ = some (.int .i64 (xs[k]).f1) := by
  obtain ⟨ad, e, h1, h2⟩ := at_T50 h (k : Int) (by omega) (by omega)
  have e1 : rd_T50 xs (k : Int) = xs[k] := by simp [rd_T50, hk]
  rw [e1, Int.toNat_natCast] at h1 h2
  exact ⟨ad, e, h1, h2⟩

set_option maxRecDepth 100000 in
set_option maxHeartbeats 1000000 in
theorem index_self (A : Option Addr) (c : Nat) (xs : List S50) (w : World) (hC : Kd.C k50 w A xs.length xs) (hm : xs.length < 4611686018427387904) :
    Calls Try.prog 26 #[.slice A xs.length c, .func (.func 22) #[] #[]] w fun e w' => e = .returned (.int .i64 (idxF (fun q => q.f1 == q.f0) xs)) ∧ Below w.heap.size w w' := by
  have hC' := Aside0.mk hC
  clear hC
  go_enter Try.func26, Try.ntmps26
  go_wp2_with fail
  go_loopw [8] (fun i wr => ∃ k : Nat, k ≤ xs.length ∧ i = .int .i64 k ∧ Aside0 (Below w.heap.size w wr ∧ ∀ j (h : j < xs.length), j < k → (fun q => q.f1 == q.f0) xs[j] = false)) (fun i _ => xs.length - (intOf i).toNat)
  case atStart => exact ⟨0, Nat.zero_le _, rfl, ⟨Below.refl _ _, fun j _ hj => by omega⟩⟩
  case round =>
    obtain ⟨k, hk, rfl, hI⟩ := hrel
    by_cases hlt : k < xs.length
    · obtain ⟨ad, rfl, q0, q1⟩ := at50 (Kd.C_below hC'.out hI.out.1) k hlt
      obtain ⟨x, hx⟩ : ∃ x, x = xs[k] := ⟨_, rfl⟩
      rw [← hx] at q0 q1
      have hx' := Aside0.mk hx
      clear hx
      by_cases hp : (fun q => q.f1 == q.f0) x = true
      · have hp' := Aside0.mk hp
        clear hp
        go_wp2_with (go_at_call 22; refine (order1_any x _).mono ?_; rw [show (x.f1 == x.f0) = true from hp'.out]; rintro e w1 ⟨rfl, hB⟩)
        go_ret
        refine ⟨?_, hI.out.1.trans (hB.mono hI.out.1.size)⟩
        rw [idxF_hit _ xs k hlt hI.out.2 (by rw [← hx'.out]; exact hp'.out)]
        rfl
      · have hp' := Aside0.mk (Bool.eq_false_iff.2 hp)
        clear hp
        go_wp2_with (go_at_call 22; refine (order1_any x _).mono ?_; rw [show (x.f1 == x.f0) = false from hp'.out]; rintro e w1 ⟨rfl, hB⟩; have hB' := Aside0.mk hB; clear hB)
        go_roundw
        case rel =>
          refine ⟨k + 1, by omega, by go_num, ⟨hI.out.1.trans (hB'.out.mono hI.out.1.size), fun j h hj => ?_⟩⟩
          rcases Nat.lt_or_ge j k with h5 | h5
          · exact hI.out.2 j h h5
          · obtain rfl : j = k := by omega
            rw [← hx'.out]; exact hp'.out
        case measure => simp [intOf]; omega
    · go_wp2
      go_ret
      refine ⟨?_, hI.out.1⟩
      rw [idxF_miss _ xs (fun j h => hI.out.2 j h (by omega))]
      rfl

theorem contains_self (A : Option Addr) (c : Nat) (xs : List S50) (w : World) (hC : Kd.C k50 w A xs.length xs) (hm : xs.length < 4611686018427387904) :
    Calls Try.prog 24 #[.slice A xs.length c, .func (.func 22) #[] #[]] w fun e w' => e = .returned (.bool (xs.any (fun q => q.f1 == q.f0))) ∧ Below w.heap.size w w' := by
  have hC' := Aside0.mk hC
  clear hC
  rw [← idxF_ge]
  go_enter Try.func24, Try.ntmps24
  go_wp2_with (go_at_call 26; refine (index_self A c xs _ hC'.out hm).mono ?_; rintro e w1 ⟨rfl, hB⟩)
  go_ret
  exact ⟨by simp, hB⟩

set_option maxRecDepth 100000 in
set_option maxHeartbeats 1000000 in
theorem index_read (B : Nat) (y : S50) (A : Option Addr) (c : Nat) (xs : List S50) (w : World) (hC : Kd.C k50 w A xs.length xs) (hc : w.cell? ⟨B, 0, none⟩ = some (.int .i64 y.f0)) (hm : xs.length < 4611686018427387904) :
    Calls Try.prog 26 #[.slice A xs.length c, .func (.func 23) #[] #[.pointer (some ⟨B, 0, none⟩)]] w fun e w' => e = .returned (.int .i64 (idxF (fun q => q.f1 == y.f0) xs)) ∧ Below w.heap.size w w' := by
  have hC' := Aside0.mk hC
  clear hC
  go_enter Try.func26, Try.ntmps26
  go_wp2_with fail
  go_loopw [8] (fun i wr => ∃ k : Nat, k ≤ xs.length ∧ i = .int .i64 k ∧ Aside0 (Below w.heap.size w wr ∧ ∀ j (h : j < xs.length), j < k → (fun q => q.f1 == y.f0) xs[j] = false)) (fun i _ => xs.length - (intOf i).toNat)
  case atStart => exact ⟨0, Nat.zero_le _, rfl, ⟨Below.refl _ _, fun j _ hj => by omega⟩⟩
  case round =>
    obtain ⟨k, hk, rfl, hI⟩ := hrel
    by_cases hlt : k < xs.length
    · obtain ⟨ad, rfl, q0, q1⟩ := at50 (Kd.C_below hC'.out hI.out.1) k hlt
      obtain ⟨x, hx⟩ : ∃ x, x = xs[k] := ⟨_, rfl⟩
      rw [← hx] at q0 q1
      have hx' := Aside0.mk hx
      clear hx
      by_cases hp : (fun q => q.f1 == y.f0) x = true
      · have hp' := Aside0.mk hp
        clear hp
        go_wp2_with (go_at_call 23; refine (order2_any B y x _ ((hI.out.1.cell (World.block_lt_of_cell? w _ hc)).trans hc)).mono ?_; rw [show (x.f1 == y.f0) = true from hp'.out]; rintro e w1 ⟨rfl, hB⟩)
        go_ret
        refine ⟨?_, hI.out.1.trans (hB.mono hI.out.1.size)⟩
        rw [idxF_hit _ xs k hlt hI.out.2 (by rw [← hx'.out]; exact hp'.out)]
        rfl
      · have hp' := Aside0.mk (Bool.eq_false_iff.2 hp)
        clear hp
        go_wp2_with (go_at_call 23; refine (order2_any B y x _ ((hI.out.1.cell (World.block_lt_of_cell? w _ hc)).trans hc)).mono ?_; rw [show (x.f1 == y.f0) = false from hp'.out]; rintro e w1 ⟨rfl, hB⟩; have hB' := Aside0.mk hB; clear hB)
        go_roundw
        case rel =>
          refine ⟨k + 1, by omega, by go_num, ⟨hI.out.1.trans (hB'.out.mono hI.out.1.size), fun j h hj => ?_⟩⟩
          rcases Nat.lt_or_ge j k with h5 | h5
          · exact hI.out.2 j h h5
          · obtain rfl : j = k := by omega
            rw [← hx'.out]; exact hp'.out
        case measure => simp [intOf]; omega
    · go_wp2
      go_ret
      refine ⟨?_, hI.out.1⟩
      rw [idxF_miss _ xs (fun j h => hI.out.2 j h (by omega))]
      rfl

theorem contains_read (B : Nat) (y : S50) (A : Option Addr) (c : Nat) (xs : List S50) (w : World) (hC : Kd.C k50 w A xs.length xs) (hc : w.cell? ⟨B, 0, none⟩ = some (.int .i64 y.f0)) (hm : xs.length < 4611686018427387904) :
    Calls Try.prog 24 #[.slice A xs.length c, .func (.func 23) #[] #[.pointer (some ⟨B, 0, none⟩)]] w fun e w' => e = .returned (.bool (xs.any (fun q => q.f1 == y.f0))) ∧ Below w.heap.size w w' := by
  have hC' := Aside0.mk hC
  clear hC
  rw [← idxF_ge]
  go_enter Try.func24, Try.ntmps24
  go_wp2_with (go_at_call 26; refine (index_read B y A c xs _ hC'.out hc hm).mono ?_; rintro e w1 ⟨rfl, hB⟩)
  go_ret
  exact ⟨by simp, hB⟩
end Go.Proofs.Ytlmendmncfibfaa
