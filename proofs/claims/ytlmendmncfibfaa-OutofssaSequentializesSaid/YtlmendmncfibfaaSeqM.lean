/- OutofssaSequentializes: the walk. -/
import Derived.Test.YtlmendmncfibfaaSeqL
set_option linter.unusedVariables false
set_option linter.unusedSimpArgs false
namespace Go.Proofs.Ytlmendmncfibfaa
open Go.RowKit Go.Proofs.YtlmendmncfibfaaW.PrintWords Go.Proofs.Ytlmendmncfibfaa.POutofssaSequentializes Mem

theorem rseq_any (A : Option Addr) (c : Nat) (dst : List Int) (B : Option Addr) (c2 : Nat) (src : List Int) (t : Int) (w : World) (hA : Kd.C (Kd.int .i64) w A dst.length dst) (hc : dst.length ≤ c) (hB : Kd.C (Kd.int .i64) w B src.length src) (hc2 : src.length ≤ c2) (hm : dst.length ≤ 1000) (hm2 : src.length ≤ 1000) :
    Calls Try.prog 8 #[.slice A dst.length c, .slice B src.length c2, .int .i64 t] w fun e w' => ∃ A' c', e = .returned (.slice A' (seqR dst src t).length c') ∧ Kd.C k28 w' A' (seqR dst src t).length (seqR dst src t) ∧ Below w.heap.size w w' := by
  by_cases h1 : dst.length = src.length
  · by_cases h3 : t ∈ dst
    · exact (rseq_early A c dst B c2 src t w hA hc hB hc2 hm hm2 (.inr (.inl h3))).mono fun e w' ⟨A', c', a, _, b⟩ => ⟨A', c', a, b⟩
    · by_cases h4 : t ∈ src
      · exact (rseq_early A c dst B c2 src t w hA hc hB hc2 hm hm2 (.inr (.inr h4))).mono fun e w' ⟨A', c', a, _, b⟩ => ⟨A', c', a, b⟩
      · exact rseq_main A c dst B c2 src t w hA hc hB hc2 hm hm2 h1 h3 h4
  · exact (rseq_early A c dst B c2 src t w hA hc hB hc2 hm hm2 (.inl h1)).mono fun e w' ⟨A', c', a, _, b⟩ => ⟨A', c', a, b⟩
theorem seqR_row (dst src : List Int) (t : Int) : ∀ x ∈ seqR dst src t, x.f3.length ≤ 1000000 := by
  intro x hx
  unfold seqR at hx
  split at hx
  · obtain ⟨q, _, rfl⟩ := List.mem_map.1 hx; simp [cp]
  · cases hx
theorem seqR_len (dst src : List Int) (t : Int) (hm : dst.length ≤ 1000) (hm2 : src.length ≤ 1000) : (seqR dst src t).length ≤ 1000000 := by
  have h := ord_len dst src t
  unfold seqR
  split
  · rw [List.length_map]; omega
  · simp

set_option maxRecDepth 100000 in
set_option maxHeartbeats 1000000 in
theorem seq_walk (A : Option Addr) (c : Nat) (dst : List Int) (B : Option Addr) (c2 : Nat) (src : List Int) (t : Int) (w : World) (hc : dst.length ≤ c) (hA : Kd.C (Kd.int .i64) w A dst.length dst) (g0 : dst.length * 8 ≤ 140737488351232 ∧ ∀ x ∈ dst, (Lit.int .i64 x).wf = true) (hc2 : src.length ≤ c2) (hB : Kd.C (Kd.int .i64) w B src.length src) (g1 : src.length * 8 ≤ 140737488351232 ∧ ∀ x ∈ src, (Lit.int .i64 x).wf = true) (g2 : (Lit.int .i64 t).wf = true) :
    Calls Try.prog 3 #[.slice A dst.length c, .slice B src.length c2, .int .i64 t] w fun e w' => e = .returned (.bool true) ∧ Below w.heap.size w w' := by
  have hX := Aside0.mk (And.intro hA (And.intro hc (And.intro hB hc2)))
  clear hA hB hc hc2 g0 g1 g2
  by_cases h : dst.length ≤ 60 ∧ src.length ≤ 60
  · obtain ⟨h1, h2⟩ := h
    have i1 : ¬ (60 : Int) < dst.length := by omega
    have i2 : ¬ (60 : Int) < src.length := by omega
    have hL := seqR_len dst src t (by omega) (by omega)
    have hW := seqR_row dst src t
    have hY := Aside0.mk (And.intro hL hW)
    obtain ⟨xs, hxs⟩ : ∃ xs, seqR dst src t = xs := ⟨_, rfl⟩
    have hZ := Aside0.mk hxs
    rw [hxs] at hY
    clear hL hW hxs
    go_enter Try.func3, Try.ntmps3
    go_wp2_with fail
    refine (awake_any _).mono ?_
    rintro e w1 ⟨rfl, B1⟩
    have H1 := Aside0.mk B1
    clear B1
    go_wp2_with fail
    refine (seq_any A c dst B c2 src t _ (Kd.C_below hX.out.1 H1.out) hX.out.2.1 (Kd.C_below hX.out.2.2.1 H1.out) hX.out.2.2.2 (by omega) (by omega)).mono ?_
    rw [hZ.out]
    rintro e w2 ⟨A2, d2, rfl, _, C2, B2⟩
    have H2 := Aside0.mk (And.intro C2 (H1.out.trans (B2.mono H1.out.size)))
    clear C2 B2 H1
    go_wp2_with fail
    refine (rseq_any A c dst B c2 src t _ (Kd.C_below hX.out.1 H2.out.2) hX.out.2.1 (Kd.C_below hX.out.2.2.1 H2.out.2) hX.out.2.2.2 (by omega) (by omega)).mono ?_
    rw [hZ.out]
    rintro e w3 ⟨A3, d3, rfl, C3, B3⟩
    have H3 := Aside0.mk (And.intro (Kd.C_below H2.out.1 B3) (And.intro C3 (H2.out.2.trans (B3.mono H2.out.2.size))))
    clear C3 B3 H2
    go_wp2_with fail
    refine (eqf_any A2 d2 A3 d3 xs _ H3.out.1 H3.out.2.1 hY.out.1 hY.out.2).mono ?_
    rintro e w4 ⟨rfl, B4⟩
    have H4 := Aside0.mk (H3.out.2.2.trans (B4.mono H3.out.2.2.size))
    clear B4 H3
    go_wp2
    go_ret
    exact ⟨rfl, H4.out⟩
  · by_cases h1 : dst.length ≤ 60
    · have i1 : ¬ (60 : Int) < dst.length := by omega
      have i2 : (60 : Int) < src.length := by omega
      go_enter Try.func3, Try.ntmps3
      go_wp2_with fail
      refine (awake_any _).mono ?_
      rintro e w1 ⟨rfl, B1⟩
      have H1 := Aside0.mk B1
      clear B1
      go_wp2
      go_ret
      exact ⟨rfl, H1.out⟩
    · have i1 : (60 : Int) < dst.length := by omega
      go_enter Try.func3, Try.ntmps3
      go_wp2_with fail
      refine (awake_any _).mono ?_
      rintro e w1 ⟨rfl, B1⟩
      have H1 := Aside0.mk B1
      clear B1
      go_wp2
      go_ret
      exact ⟨rfl, H1.out⟩
end Go.Proofs.Ytlmendmncfibfaa
