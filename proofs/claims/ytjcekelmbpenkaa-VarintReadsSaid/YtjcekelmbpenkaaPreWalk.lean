/- VarintPrefix: the walk. -/
import Derived.Test.YtjcekelmbpenkaaAppWalk
import Derived.Test.YtjcekelmbpenkaaRtPure
set_option linter.unusedVariables false
set_option linter.unusedSimpArgs false
namespace Go.Proofs.Ytjcekelmbpenkaa
open Go.RowKit Go.Proofs.YtjcekelmbpenkaaW.PrintWords Mem VarPure

/-- The first n bytes of a row, cut. -/
theorem cut_first {w : World} {A : Option Addr} {c n : Nat} {b : List Int} (hC : Kd.C Byt w A b.length b) (h1 : n ≤ b.length) (h2 : b.length ≤ c) : Kd.C Byt w A n (b.take n) := by
  have := Kd.C_take (k := Byt) hC h1
  rwa [List.length_take, Nat.min_eq_left h1] at this

/-- Equal of a row and of the first bytes of another one. -/
theorem eqb_cut {c0 c1 n : Nat} {A0 A1 : Option Addr} {l m : List Int} {w : World} (hn : n ≤ m.length) (h0 : Kd.C Byt w A0 l.length l) (h1 : Kd.C Byt w A1 m.length m) (g0 : l.length ≤ c0) (g1 : m.length ≤ c1) (hl : l.length ≤ 1000000) :
    Calls Try.prog 10 #[.slice A0 l.length c0, .slice A1 n c1] w fun e w' => e = .returned (.bool (decide (l = m.take n))) ∧ ∃ k, w' = w.drewN k := by
  have hl2 : (m.take n).length = n := by rw [List.length_take]; omega
  have := eqb_any c0 c1 A0 A1 l (m.take n) w h0 (by rw [hl2]; exact cut_first h1 hn g1) g0 (by omega) hl
  rwa [hl2] at this

set_option maxRecDepth 100000 in
set_option maxHeartbeats 1000000 in
theorem prefix_walk (m n : Int) (w : World) (hm : (Lit.int .i64 m).wf = true) (hn : (Lit.int .i64 n).wf = true) :
    Calls Try.prog 3 #[.int .i64 m, .int .i64 n] w fun e w' => e = .returned (.bool true) ∧ Below w.heap.size w w' := by
  have hX := Aside0.mk (And.intro (wf_i64 hm) (wf_i64 hn))
  clear hm hn
  have hml := (encI_len m).2
  have hnl := (encI_len n).2
  obtain ⟨a, ha⟩ : ∃ a, a = encI m := ⟨_, rfl⟩
  obtain ⟨b, hb⟩ : ∃ b, b = encI n := ⟨_, rfl⟩
  have hab := Aside0.mk (And.intro ha hb)
  rw [← ha] at hml
  rw [← hb] at hnl
  clear ha hb
  by_cases hgt : b.length < a.length
  · have hd : decide (b = a.take b.length) = (m == n) := by
      by_cases e : m = n
      · subst e
        rw [hab.out.1, hab.out.2] at hgt
        omega
      · rw [beq_eq_false_iff_ne.2 e, decide_eq_false]
        intro h
        rw [hab.out.1, hab.out.2] at h
        exact e (enc_prefix hX.out.2 hX.out.1 h).symm
    have hd' := Aside0.mk hd
    clear hd
    go_enter Try.func3, Try.ntmps3
    go_wp2_with fail
    refine (aint_any 0 0 none [] m w (Kd.C_nil _ _) hX.out.1 (by omega)).mono ?_
    rw [List.nil_append, ← hab.out.1]
    rintro r w1 ⟨v1, rfl, hR1, hK1⟩
    have h1 := Aside0.mk (And.intro hR1 hK1)
    clear hR1 hK1
    go_wp2_with fail
    refine (aint_any 0 0 none [] n w1 (Kd.C_nil _ _) hX.out.2 (by omega)).mono ?_
    rw [List.nil_append, ← hab.out.2]
    rintro r w2 ⟨v2, rfl, hR2, hK2⟩
    have hR1 := Kd.R_below h1.out.1 hK2.none_below
    obtain ⟨A3, c3, rfl, hc3, hC3⟩ := Kd.R_reads hR1
    obtain ⟨A4, c4, rfl, hc4, hC4⟩ := Kd.R_reads hR2
    have h3 := Aside0.mk (And.intro hC3 (And.intro hC4 (h1.out.2.then_ hK2 (fun _ h => h.elim))))
    clear hC3 hC4 hK2 hR1 hR2
    have hE := Aside0.mk (eqb_cut (n := b.length) (by omega) h3.out.2.1 h3.out.1 hc4 hc3 (by omega))
    go_wp2_with fail
    refine hE.out.mono ?_
    rw [hd'.out]
    rintro r w4 ⟨rfl, n4, rfl⟩
    go_wp2_with (go_at_call 11; refine (works_any _).mono ?_; rintro r w9 ⟨rfl, hB⟩)
    go_ret
    exact ⟨rfl, below_then (h3.out.2.2.drewN n4).none_below (h3.out.2.2.drewN n4).size hB⟩
  · have hd : decide (a = b.take a.length) = (m == n) := by
      by_cases e : m = n
      · subst e
        rw [hab.out.1, hab.out.2, List.take_length]
        simp
      · rw [beq_eq_false_iff_ne.2 e, decide_eq_false]
        intro h
        rw [hab.out.1, hab.out.2] at h
        exact e (enc_prefix hX.out.1 hX.out.2 h)
    have hd' := Aside0.mk hd
    clear hd
    go_enter Try.func3, Try.ntmps3
    go_wp2_with fail
    refine (aint_any 0 0 none [] m w (Kd.C_nil _ _) hX.out.1 (by omega)).mono ?_
    rw [List.nil_append, ← hab.out.1]
    rintro r w1 ⟨v1, rfl, hR1, hK1⟩
    have h1 := Aside0.mk (And.intro hR1 hK1)
    clear hR1 hK1
    go_wp2_with fail
    refine (aint_any 0 0 none [] n w1 (Kd.C_nil _ _) hX.out.2 (by omega)).mono ?_
    rw [List.nil_append, ← hab.out.2]
    rintro r w2 ⟨v2, rfl, hR2, hK2⟩
    have hR1 := Kd.R_below h1.out.1 hK2.none_below
    obtain ⟨A3, c3, rfl, hc3, hC3⟩ := Kd.R_reads hR1
    obtain ⟨A4, c4, rfl, hc4, hC4⟩ := Kd.R_reads hR2
    have h3 := Aside0.mk (And.intro hC3 (And.intro hC4 (h1.out.2.then_ hK2 (fun _ h => h.elim))))
    clear hC3 hC4 hK2 hR1 hR2
    have hE := Aside0.mk (eqb_cut (n := a.length) (by omega) h3.out.1 h3.out.2.1 hc3 hc4 (by omega))
    go_wp2_with fail
    refine hE.out.mono ?_
    rw [hd'.out]
    rintro r w4 ⟨rfl, n4, rfl⟩
    go_wp2_with (go_at_call 11; refine (works_any _).mono ?_; rintro r w9 ⟨rfl, hB⟩)
    go_ret
    exact ⟨rfl, below_then (h3.out.2.2.drewN n4).none_below (h3.out.2.2.drewN n4).size hB⟩
end Go.Proofs.Ytjcekelmbpenkaa
