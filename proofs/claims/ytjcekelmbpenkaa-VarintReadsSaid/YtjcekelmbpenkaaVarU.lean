/- The reference's reader: Ints. -/
import Derived.Test.YtjcekelmbpenkaaVarT
set_option linter.unusedVariables false
set_option linter.unusedSimpArgs false
namespace Go.Proofs.Ytjcekelmbpenkaa
open Go.RowKit Go.Proofs.YtjcekelmbpenkaaW.PrintWords Mem VarPure

theorem RRd.bound {w : World} {ok : Nat → Prop} {p : Nat} {l : List Int} {f : Int} (h : RRd w ok p l f) : RRd w (fun k => ok k ∧ k < w.heap.size) p l f := by
  obtain ⟨A, c, g⟩ := h.ex
  exact ⟨⟨A, c, g.hp, ⟨g.okp, blk_lt' g.hp⟩, g.hl, g.hc, fun w1 h1 => g.hC w1 (fun k hk hne hlt => h1 k ⟨hk, hlt⟩ hne hlt), g.bs⟩⟩
theorem RRd.mono {w : World} {ok ok' : Nat → Prop} {p : Nat} {l : List Int} {f : Int} (h : RRd w ok p l f) (hm : ∀ k, ok k → ok' k) : RRd w ok' p l f := by
  obtain ⟨A, c, g⟩ := h.ex
  exact ⟨⟨A, c, g.hp, hm _ g.okp, g.hl, g.hc, fun w1 h1 => g.hC w1 (fun k hk hne hlt => h1 k (hm k hk) hne hlt), g.bs⟩⟩
theorem rdN_add (a b : Nat) (l : List Int) (f : Int) : (rdN (a + b) l f).2 = (rdN b (rdN a l f).2.1 (rdN a l f).2.2).2 := by
  induction a generalizing l f with
  | zero => rw [Nat.zero_add]; rfl
  | succ a ih => rw [show a + 1 + b = (a + b) + 1 by omega, rdN, rdN]; exact ih _ _

set_option maxHeartbeats 1000000 in
theorem rints_any {w : World} {ok : Nat → Prop} {p : Nat} {l : List Int} {f : Int} (hR : RRd w ok p l f) :
    Calls Try.prog 18 #[.pointer (some ⟨p, 0, none⟩)] w fun e w' => ∃ v, e = .returned v ∧ Kd.R KI 3 w' 0 (fun j => w.heap.size ≤ j) v (rdIs l f).1 ∧ RRd w' ok p (rdIs l f).2.1 (rdIs l f).2.2 ∧ Kp (fun j => j = p ∨ w.heap.size ≤ j) w w' := by
  have hB := Aside0.mk hR.bound
  have hpl := hR.bound.okp.2
  have hll := hR.bs.2
  obtain ⟨hle1, hle2⟩ := rdL_le l f
  obtain ⟨n, l1, f1, hn⟩ : ∃ n l' f', rdL l f = (n, l', f') := ⟨_, _, _, rfl⟩
  have hlen := fun w1 (h1 : RRd w1 (fun k => ok k ∧ k < w.heap.size) p l f) => rlength_any h1
  have hf1 : 0 < n → f1 = 0 := by
    intro h0
    have h2 : (rdL l f).2.2 = f1 := by rw [hn]
    have h3 : (rdL l f).1 = n := by rw [hn]
    rw [rdL] at h2 h3
    split at h3
    · simp at h3; omega
    split at h3
    · simp at h3; omega
    split at h3
    · simp at h3; omega
    · rename_i a b c
      rw [if_neg a, if_neg b, if_neg c] at h2
      rw [← h2]
      simpa using a
  have hres : rdIs l f = (if (rdN n l1 f1).2.2 ≠ 0 then [] else (rdN n l1 f1).1, (rdN n l1 f1).2) := by rw [rdIs, hn]
  rw [hn] at hlen hle1 hle2
  simp only at hle1 hle2
  have hlen' := Aside0.mk hlen
  have hres' := Aside0.mk (And.intro hres hf1)
  clear hlen hn hres hR hf1
  go_enter Try.func18, Try.ntmps18
  go_wp2_with (go_at_call 41; refine (hlen'.out _ hB.out).mono ?_; rintro r wa ⟨rfl, hDa, hKa⟩; have hDa' := Aside0.mk (And.intro hDa hKa); clear hDa hKa)
  go_loopw [3, 5] (fun v3 v5 wr => ∃ j : Nat, j ≤ n ∧ v5 = .int .i64 j ∧ Aside0 (Kd.R KI 3 wr 0 (fun k => w.heap.size ≤ k) v3 (rdN j l1 f1).1 ∧ (rdN j l1 f1).2.2 = f1) ∧ Aside0 (RRd wr (fun k => ok k ∧ k < w.heap.size) p (rdN j l1 f1).2.1 (rdN j l1 f1).2.2) ∧ Aside0 (Kp (fun k => k = p ∨ w.heap.size ≤ k) w wr)) (fun _ v _ => n - (intOf v).toNat)
  case atStart => exact ⟨0, Nat.zero_le _, rfl, ⟨Kd.R_nil _ _ _ _ _, rfl⟩, ⟨hDa'.out.1⟩, ⟨hDa'.out.2.mono (fun k h => .inl h)⟩⟩
  case round =>
    obtain ⟨j, hj, rfl, hO, hD, hK⟩ := hrel
    by_cases hlt : j < n
    · have hf0 := hres'.out.2 (by omega)
      subst hf0
      obtain ⟨x, l2, f2, hx⟩ : ∃ x l2 f2, rdI (rdN j l1 0).2.1 (rdN j l1 0).2.2 = (x, l2, f2) := ⟨_, _, _, rfl⟩
      have hsn := rdN_snoc j l1 0
      rw [hx] at hsn
      have hnum := fun w1 (h1 : RRd w1 (fun k => ok k ∧ k < w.heap.size) p (rdN j l1 0).2.1 (rdN j l1 0).2.2) => rint_any h1
      unfold RNum at hnum
      rw [hx] at hnum
      have hX := Aside0.mk (And.intro hsn hnum)
      have hlj := rdN_len j l1 0
      obtain ⟨acc, hacc⟩ : ∃ acc, acc = (rdN j l1 0).1 := ⟨_, rfl⟩
      rw [← hacc] at hlj
      have hO2 := Aside0.mk (hacc ▸ hO.out.1)
      have hac' := Aside0.mk hacc
      clear hsn hnum hx hacc
      by_cases cf : f2 = 0
      · subst cf
        go_wp2_with (first
          | (go_at_call 15; refine (hX.out.2 wr hD.out).mono ?_; rintro r w2 ⟨rfl, hR2, hK2⟩; have h2 := Aside0.mk (And.intro (Kd.R_kept hO2.out hK2.kept (fun k hk he => by omega)) (And.intro hR2 (hK.out.then_ hK2 (fun k hk => .inl (.inl hk))))); clear hR2 hK2)
          | (at_builtin; refine Kd.R_append KI (w0 := w2) 0 (by rfl) (.tmp 13) (.tmp 16) 27 3 (.int .i64 0) 8 (by rfl) Try.underlying27 info3 rfl (by decide) (by decide) u3 acc x [.int .i64 x] (fun k => w.heap.size ≤ k) (fun _ => False) rfl rfl rfl (fun _ h => h.elim) (fun k hk => by have := h2.out.2.2.size; omega) h2.out.1 (Below.refl _ _) (Nat.zero_le _) (by omega) ?_; intro v1 w3 hRA hBA hgA hatA; have h3 : Aside0 (Kd.R KI 3 w3 0 (fun k => w.heap.size ≤ k) v1 (acc ++ [x]) ∧ RRd w3 (fun k => ok k ∧ k < w.heap.size) p l2 0 ∧ Kp (fun k => k = p ∨ w.heap.size ≤ k) w w3) := ⟨hRA, h2.out.2.1.step (fun k hk hlt => hgA.block k hlt (fun e => by have := h2.out.1.1 k e.symm; omega)), h2.out.2.2.grown hgA (fun k hk => .inr (h2.out.1.1 k hk))⟩; clear hRA hBA hgA hatA)
          | (go_at_call 35; refine (rbad_any h3.out.2.1).mono ?_; rw [show ((0 : Int) != 0) = false from rfl]; rintro r w4 ⟨rfl, rfl⟩))
        go_roundw
        case rel => exact ⟨j + 1, by omega, by go_num, ⟨by rw [hX.out.1]; exact ⟨hac'.out ▸ h3.out.1, rfl⟩⟩, ⟨by rw [hX.out.1]; exact h3.out.2.1⟩, ⟨h3.out.2.2⟩⟩
        case measure => simp [intOf]; omega
      · have d1 : (f2 != 0) = true := by simpa using cf
        have cf' := Aside0.mk cf
        clear cf
        go_wp2_with (first
          | (go_at_call 15; refine (hX.out.2 wr hD.out).mono ?_; rintro r w2 ⟨rfl, hR2, hK2⟩; have h2 := Aside0.mk (And.intro (Kd.R_kept hO2.out hK2.kept (fun k hk he => by omega)) (And.intro hR2 (hK.out.then_ hK2 (fun k hk => .inl (.inl hk))))); clear hR2 hK2)
          | (at_builtin; refine Kd.R_append KI (w0 := w2) 0 (by rfl) (.tmp 13) (.tmp 16) 27 3 (.int .i64 0) 8 (by rfl) Try.underlying27 info3 rfl (by decide) (by decide) u3 acc x [.int .i64 x] (fun k => w.heap.size ≤ k) (fun _ => False) rfl rfl rfl (fun _ h => h.elim) (fun k hk => by have := h2.out.2.2.size; omega) h2.out.1 (Below.refl _ _) (Nat.zero_le _) (by omega) ?_; intro v1 w3 hRA hBA hgA hatA; have h3 : Aside0 (RRd w3 (fun k => ok k ∧ k < w.heap.size) p l2 f2 ∧ Kp (fun k => k = p ∨ w.heap.size ≤ k) w w3) := ⟨h2.out.2.1.step (fun k hk hlt => hgA.block k hlt (fun e => by have := h2.out.1.1 k e.symm; omega)), h2.out.2.2.grown hgA (fun k hk => .inr (h2.out.1.1 k hk))⟩; clear hRA hBA hgA hatA)
          | (go_at_call 35; refine (rbad_any h3.out.1).mono ?_; rw [d1]; rintro r w4 ⟨rfl, rfl⟩))
        go_ret
        have e1 : (rdN n l1 0).2 = (l2, f2) := by
          obtain ⟨m, rfl⟩ : ∃ m, n = (j + 1) + m := ⟨n - (j + 1), by omega⟩
          rw [rdN_add, hX.out.1]
          exact rdN_fail m l2 cf'.out
        have e2 : rdIs l f = ([], l2, f2) := by rw [hres'.out.1, e1, if_pos cf'.out]
        rw [e2]
        exact ⟨_, rfl, Kd.R_nil _ _ _ _ _, h3.out.1.mono (fun k hk => hk.1), h3.out.2⟩
    · obtain rfl : j = n := by omega
      go_wp2
      go_ret
      have e2 : rdIs l f = rdN j l1 f1 := by
        rw [hres'.out.1]
        by_cases h0 : (rdN j l1 f1).2.2 ≠ 0
        · rw [if_pos h0]
          have : ¬ 0 < j := fun h => h0 (hO.out.2.trans (hres'.out.2 h))
          obtain rfl : j = 0 := by omega
          rfl
        · rw [if_neg h0]
      rw [e2]
      exact ⟨_, rfl, hO.out.1, hD.out.mono (fun k hk => hk.1), hK.out⟩
end Go.Proofs.Ytjcekelmbpenkaa
