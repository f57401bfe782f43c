/- outofssa.Sequentialize. -/
import Derived.Test.YtlmendmncfibfaaSeqG
set_option linter.unusedVariables false
set_option linter.unusedSimpArgs false
namespace Go.Proofs.Ytlmendmncfibfaa
open Go.RowKit Go.Proofs.YtlmendmncfibfaaW.PrintWords Go.Proofs.Ytlmendmncfibfaa.POutofssaSequentializes Mem

theorem distinct_any (A : Option Addr) (c : Nat) (l : List Int) (b : Bool) (w : World) (hC : Kd.C (Kd.int .i64) w A l.length l) (hc : l.length ≤ c) (hm : l.length ≤ 1000000) (hb : decide l.Nodup = b) :
    Calls Try.prog 12 #[.slice A l.length c] w fun e w' => e = .returned (.bool b) ∧ ∃ q, w' = w.drewN q :=
  (outofssa_distinct.calls (l.length + l.length + 1) A c l b w hC hc (by rw [distinct_f l _ (by omega) (by omega), hb])).mono fun e w' h => ⟨h.1, h.2.out⟩
theorem mem_any (A : Option Addr) (c : Nat) (l : List Int) (v : Int) (b : Bool) (w : World) (hC : Kd.C (Kd.int .i64) w A l.length l) (hc : l.length ≤ c) (hm : l.length ≤ 1000000) (hb : decide (v ∈ l) = b) :
    Calls Try.prog 10 #[.slice A l.length c, .int .i64 v] w fun e w' => e = .returned (.bool b) ∧ ∃ q, w' = w.drewN q :=
  (slices_Contains_int_int.calls (l.length + 1) A c l v b w hC hc (by rw [contains_f l v _ (by omega) (by omega), hb])).mono fun e w' h => ⟨h.1, h.2.out⟩
theorem pairs_any (A : Option Addr) (c : Nat) (a : List Int) (B : Option Addr) (c2 : Nat) (b : List Int) (w : World) (hA : Kd.C (Kd.int .i64) w A a.length a) (hc : a.length ≤ c) (hB : Kd.C (Kd.int .i64) w B b.length b) (hc2 : b.length ≤ c2) (hab : a.length = b.length) (hm : a.length ≤ 1000000) :
    Calls Try.prog 14 #[.slice A a.length c, .slice B b.length c2] w fun e w' => ∃ A' c', e = .returned (.slice A' (List.zipWith S50.mk a b).length c') ∧ Kd.C k50 w' A' (List.zipWith S50.mk a b).length (List.zipWith S50.mk a b) ∧ Below w.heap.size w w' := by
  refine (outofssa_pairs.calls (a.length + 1) A c a B c2 b _ w hA hc hB hc2 (pairs_f a b hab _ (by omega) (by omega))).mono ?_
  rintro e w' ⟨v, rfl, hR, hb⟩
  obtain ⟨A', c', rfl, _, hC⟩ := Kd.R_reads hR
  exact ⟨A', c', rfl, hC, hb⟩
theorem copies_any (A : Option Addr) (c : Nat) (l : List S50) (t : Int) (w : World) (hC : Kd.C k50 w A l.length l) (hc : l.length ≤ c) (hm : l.length ≤ 1000000) :
    Calls Try.prog 15 #[.slice A l.length c, .int .i64 t] w fun e w' => ∃ A' c', e = .returned (.slice A' (l.map (cp t)).length c') ∧ (l.map (cp t)).length ≤ c' ∧ Kd.C k28 w' A' (l.map (cp t)).length (l.map (cp t)) ∧ Below w.heap.size w w' := by
  refine (outofssa_copies.calls (l.length + 1) A c l t _ w hC hc (copies_f l t _ (by omega) (by omega))).mono ?_
  rintro e w' ⟨v, rfl, hS, hb⟩
  obtain ⟨A', c', rfl, hle, hC'⟩ := Kd.R_reads (Kd.S_R hS)
  exact ⟨A', c', rfl, hle, hC', hb⟩

def good (dst src : List Int) (t : Int) : Bool := decide (dst.length = src.length) && (decide dst.Nodup && (!decide (t ∈ dst) && !decide (t ∈ src)))
def ord (dst src : List Int) (t : Int) : List S50 :=
  let pd := (List.zipWith S50.mk dst src).filter np
  fin t (mu pd) pd []
def seqR (dst src : List Int) (t : Int) : List S28 := if good dst src t = true then (ord dst src t).map (cp 0) else []
theorem C_none28 (w : World) : Kd.C k28 w none 0 [] := by
  obtain ⟨A, c, e, _, h⟩ := Kd.R_reads (Kd.R_nil k28 28 w 0 (fun _ => True))
  injection e with e1 e2 e3
  subst e1
  exact h
theorem zip_f0 (t : Int) : ∀ (a b : List Int), t ∉ a → ∀ q ∈ List.zipWith S50.mk a b, q.f0 ≠ t
  | [], _, _, q, hq => by simp at hq
  | _ :: _, [], _, q, hq => by simp at hq
  | x :: a, y :: b, h, q, hq => by
    rw [List.zipWith_cons_cons, List.mem_cons] at hq
    rw [List.mem_cons] at h
    rcases hq with rfl | hq
    · exact fun e => h (.inl e.symm)
    · exact zip_f0 t a b (fun h2 => h (.inr h2)) q hq
theorem ord_len (dst src : List Int) (t : Int) : (ord dst src t).length ≤ 2 * dst.length + 1 := by
  unfold ord
  have h1 := fin_len t (mu ((List.zipWith S50.mk dst src).filter np)) ((List.zipWith S50.mk dst src).filter np) []
  have h2 : ((List.zipWith S50.mk dst src).filter np).length ≤ (List.zipWith S50.mk dst src).length := List.length_filter_le _ _
  have h3 : (List.zipWith S50.mk dst src).length ≤ dst.length := by rw [List.length_zipWith]; omega
  have h4 : mu ((List.zipWith S50.mk dst src).filter np) ≤ 2 * ((List.zipWith S50.mk dst src).filter np).length + 1 := by unfold mu; split <;> omega
  simp only [List.length_nil] at h1
  show (fin t (mu ((List.zipWith S50.mk dst src).filter np)) ((List.zipWith S50.mk dst src).filter np) []).length ≤ _
  omega

set_option maxRecDepth 100000 in
set_option maxHeartbeats 1000000 in
theorem seq_any (A : Option Addr) (c : Nat) (dst : List Int) (B : Option Addr) (c2 : Nat) (src : List Int) (t : Int) (w : World) (hA : Kd.C (Kd.int .i64) w A dst.length dst) (hc : dst.length ≤ c) (hB : Kd.C (Kd.int .i64) w B src.length src) (hc2 : src.length ≤ c2) (hm : dst.length ≤ 1000) (hm2 : src.length ≤ 1000) :
    Calls Try.prog 7 #[.slice A dst.length c, .slice B src.length c2, .int .i64 t] w fun e w' => ∃ A' c', e = .returned (.slice A' (seqR dst src t).length c') ∧ (seqR dst src t).length ≤ c' ∧ Kd.C k28 w' A' (seqR dst src t).length (seqR dst src t) ∧ Below w.heap.size w w' := by
  have hX := Aside0.mk (And.intro hA (And.intro hc (And.intro hB (And.intro hc2 (And.intro hm hm2)))))
  clear hA hB hc hc2
  by_cases h1 : dst.length = src.length
  · have h1' : ((dst.length : Int) == src.length) = true := by simp [h1]
    have h1'' : ((dst.length : Int) != src.length) = false := by simp [h1]
    have hL := Aside0.mk h1
    by_cases h2 : dst.Nodup
    · by_cases h3 : t ∈ dst
      · have hr : seqR dst src t = [] := by unfold seqR good; simp [h3]
        rw [hr]
        have hY := Aside0.mk (And.intro h2 h3)
        clear h2 h3 hr h1
        go_enter Try.func7, Try.ntmps7
        go_wp2_with (first
          | (go_at_call 12; refine (distinct_any A c dst true _ hX.out.1 hX.out.2.1 (by omega) (decide_eq_true hY.out.1)).mono ?_; rintro e w1 ⟨rfl, q1, rfl⟩)
          | (go_at_call 10; refine (mem_any A c dst t true _ (Kd.C_drewN hX.out.1 _) hX.out.2.1 (by omega) (decide_eq_true hY.out.2)).mono ?_; rintro e w2 ⟨rfl, q2, rfl⟩))
        go_ret
        exact ⟨_, _, rfl, Nat.le_refl _, C_none28 _, by repeat (first | exact Below.refl _ _ | apply pw_below_drewN)⟩
      · by_cases h4 : t ∈ src
        · have hr : seqR dst src t = [] := by unfold seqR good; simp [h4]
          rw [hr]
          have hY := Aside0.mk (And.intro h2 (And.intro h3 h4))
          clear h2 h3 h4 hr h1
          go_enter Try.func7, Try.ntmps7
          go_wp2_with (first
            | (go_at_call 12; refine (distinct_any A c dst true _ hX.out.1 hX.out.2.1 (by omega) (decide_eq_true hY.out.1)).mono ?_; rintro e w1 ⟨rfl, q1, rfl⟩)
            | (go_at_call 10; with_reducible refine (mem_any A c dst t false _ (Kd.C_drewN hX.out.1 _) hX.out.2.1 (by omega) (decide_eq_false hY.out.2.1)).mono ?_; rintro e w2 ⟨rfl, q2, rfl⟩)
            | (go_at_call 10; with_reducible refine (mem_any B c2 src t true _ (Kd.C_drewN hX.out.2.2.1 _) hX.out.2.2.2.1 (by omega) (decide_eq_true hY.out.2.2)).mono ?_; rintro e w3 ⟨rfl, q3, rfl⟩))
          go_ret
          exact ⟨_, _, rfl, Nat.le_refl _, C_none28 _, by repeat (first | exact Below.refl _ _ | apply pw_below_drewN)⟩
        · have hr : seqR dst src t = (ord dst src t).map (cp 0) := by unfold seqR good; simp [h1, h2, h3, h4]
          rw [hr]
          obtain ⟨ps, hps⟩ : ∃ ps, List.zipWith S50.mk dst src = ps := ⟨_, rfl⟩
          have hpl : ps.length ≤ 1000 := by rw [← hps, List.length_zipWith]; omega
          have hpf : ∀ q ∈ ps, q.f0 ≠ t := fun q hq => zip_f0 t dst src h3 q (by rw [hps]; exact hq)
          have hol := ord_len dst src t
          have ho : fin t (mu (ps.filter np)) (ps.filter np) [] = ord dst src t := by rw [← hps]; rfl
          obtain ⟨os, hos⟩ : ∃ os, ord dst src t = os := ⟨_, rfl⟩
          rw [hos] at ho hol ⊢
          have hY := Aside0.mk (And.intro h2 (And.intro h3 (And.intro h4 (And.intro hps (And.intro hpl (And.intro hpf (And.intro ho hol)))))))
          clear h2 h3 h4 hr h1 hps hpl hpf ho hol hos
          go_enter Try.func7, Try.ntmps7
          go_wp2_with (first
            | (go_at_call 12; refine (distinct_any A c dst true _ hX.out.1 hX.out.2.1 (by omega) (decide_eq_true hY.out.1)).mono ?_; rintro e w1 ⟨rfl, q1, rfl⟩)
            | (go_at_call 10; with_reducible refine (mem_any A c dst t false _ (Kd.C_drewN hX.out.1 _) hX.out.2.1 (by omega) (decide_eq_false hY.out.2.1)).mono ?_; rintro e w2 ⟨rfl, q2, rfl⟩)
            | (go_at_call 10; with_reducible refine (mem_any B c2 src t false _ (Kd.C_drewN hX.out.2.2.1 _) hX.out.2.2.2.1 (by omega) (decide_eq_false hY.out.2.2.1)).mono ?_; rintro e w3 ⟨rfl, q3, rfl⟩)
            | (go_at_call 14; refine (pairs_any A c dst B c2 src _ (Kd.C_drewN hX.out.1 _) hX.out.2.1 (Kd.C_drewN hX.out.2.2.1 _) hX.out.2.2.2.1 hL.out (by omega)).mono ?_; rw [hY.out.2.2.2.1]; rintro e w4 ⟨A4, c4, rfl, C4, B4⟩; have H4 := Aside0.mk (And.intro C4 B4); clear C4 B4)
            | (go_at_call 13; refine (order_any A4 c4 ps t _ H4.out.1 hY.out.2.2.2.2.1 hY.out.2.2.2.2.2.1).mono ?_; rw [hY.out.2.2.2.2.2.2.1]; rintro e w5 ⟨v5, b5, rfl, R5, B5⟩; obtain ⟨A5, c5, rfl, k5, C5⟩ := Kd.R_reads R5; have H5 := Aside0.mk (And.intro C5 (And.intro k5 (H4.out.2.trans (B5.mono H4.out.2.size)))); clear R5 B5 C5 k5)
            | (go_at_call 15; refine (copies_any A5 c5 os 0 _ H5.out.1 H5.out.2.1 (by have := hY.out.2.2.2.2.2.2.2; omega)).mono ?_; rintro e w6 ⟨A6, c6, rfl, k6, C6, B6⟩; have H6 := Aside0.mk (And.intro C6 (And.intro k6 (H5.out.2.2.trans (B6.mono H5.out.2.2.size)))); clear C6 k6 B6))
          go_ret
          refine ⟨A6, c6, by simp, H6.out.2.1, H6.out.1, ?_⟩
          exact (by repeat (first | exact Below.refl _ _ | apply pw_below_drewN) : Below w.heap.size w (w.drewN _)).trans H6.out.2.2
    · have hr : seqR dst src t = [] := by unfold seqR good; simp [h2]
      rw [hr]
      have hY := Aside0.mk h2
      clear h2 hr h1
      go_enter Try.func7, Try.ntmps7
      go_wp2_with (go_at_call 12; refine (distinct_any A c dst false _ hX.out.1 hX.out.2.1 (by omega) (decide_eq_false hY.out)).mono ?_; rintro e w1 ⟨rfl, q1, rfl⟩)
      go_ret
      exact ⟨_, _, rfl, Nat.le_refl _, C_none28 _, by repeat (first | exact Below.refl _ _ | apply pw_below_drewN)⟩
  · have hr : seqR dst src t = [] := by unfold seqR good; simp [h1]
    rw [hr]
    have h1' : ((dst.length : Int) == src.length) = false := by simp; omega
    have h1'' : ((dst.length : Int) != src.length) = true := by simp; omega
    clear h1 hr
    go_enter Try.func7, Try.ntmps7
    go_wp2
    go_ret
    exact ⟨_, _, rfl, Nat.le_refl _, C_none28 _, Below.refl _ _⟩
end Go.Proofs.Ytlmendmncfibfaa
