/- The reference's reader: length, Ints, String. -/
import Derived.Test.YtjcekelmbpenkaaVarS
import Derived.Test.YtjcekelmbpenkaaPreWalk
set_option linter.unusedVariables false
set_option linter.unusedSimpArgs false
namespace Go.Proofs.Ytjcekelmbpenkaa
open Go.RowKit Go.Proofs.YtjcekelmbpenkaaW.PrintWords Mem VarPure

theorem RRd.bs {w : World} {ok : Nat → Prop} {p : Nat} {l : List Int} {f : Int} (h : RRd w ok p l f) : Bs l ∧ l.length ≤ 100000 := by
  obtain ⟨A, c, g⟩ := h.ex
  exact ⟨g.bs, g.hl⟩
theorem rest_at {w : World} {ok : Nat → Prop} {p : Nat} {l : List Int} {f : Int} (h : RRd w ok p l f) : ∃ A c, w.cell? ⟨p, 1, none⟩ = some (.slice A l.length c) := by
  obtain ⟨A, c, g⟩ := h.ex
  exact ⟨A, c, cell_at g.hp rfl⟩

theorem rlength_any {w : World} {ok : Nat → Prop} {p : Nat} {l : List Int} {f : Int} (h : RRd w ok p l f) :
    Calls Try.prog 41 #[.pointer (some ⟨p, 0, none⟩)] w fun e w' => e = .returned (.int .i64 ((rdL l f).1 : Int)) ∧ RRd w' ok p (rdL l f).2.1 (rdL l f).2.2 ∧ Kp (fun k => k = p) w w' := by
  obtain ⟨n, l', f', hn⟩ : ∃ n l' f', rdI l f = (n, l', f') := ⟨_, _, _, rfl⟩
  have h' := Aside0.mk h
  have hn' := Aside0.mk hn
  have hlI : I64 n := by have := rdI_I64 h.bs.1 f; rwa [hn] at this
  have hl' : l'.length ≤ 100000 := by have h3 : l'.length ≤ l.length := (by have := rdI_len l f; rw [hn] at this; exact this); have := h.bs.2; omega
  clear h hn
  have hnum := fun w1 (h1 : RRd w1 ok p l f) => rint_any h1
  unfold RNum at hnum
  rw [hn'.out] at hnum
  have hnum' := Aside0.mk hnum
  clear hnum
  obtain ⟨hI1, hI2⟩ := hlI
  by_cases c1 : f' = 0
  · subst c1
    by_cases c2 : n < 0
    · have d2 : decide (n < 0) = true := decide_eq_true c2
      have hres : rdL l f = (0, [], 3) := by rw [rdL, hn'.out, if_neg (by simp), if_pos c2]
      have hres' := Aside0.mk hres
      clear hres
      go_enter Try.func41, Try.ntmps41
      go_wp2_with (first
        | (go_at_call 15; refine (hnum'.out _ h'.out).mono ?_; rintro r w1 ⟨rfl, hR, hK⟩; have hR' := Aside0.mk hR; clear hR)
        | (go_at_call 35; refine (rbad_any hR'.out).mono ?_; rw [show ((0 : Int) != 0) = false from rfl]; rintro r w2 ⟨rfl, rfl⟩)
        | (go_at_call 37; refine (rfail_any hR'.out 3).mono ?_; rintro r w2 ⟨rfl, hR2, hK2⟩))
      go_ret
      rw [hres'.out]
      exact ⟨rfl, hR2, hK.then_ hK2 (fun k hk => .inl hk)⟩
    · have d2 : decide (n < 0) = false := decide_eq_false c2
      by_cases c3 : (l'.length : Int) < n
      · have d3 : decide ((l'.length : Int) < n) = true := decide_eq_true c3
        have hres : rdL l f = (0, [], 4) := by rw [rdL, hn'.out, if_neg (by simp), if_neg c2, if_pos c3]
        have hres' := Aside0.mk hres
        clear hres
        go_enter Try.func41, Try.ntmps41
        go_wp2_with (first
          | (go_at_call 15; refine (hnum'.out _ h'.out).mono ?_; rintro r w1 ⟨rfl, hR, hK⟩; obtain ⟨A1, c1, k1⟩ := rest_at hR; have hR' := Aside0.mk hR; clear hR)
          | (go_at_call 35; refine (rbad_any hR'.out).mono ?_; rw [show ((0 : Int) != 0) = false from rfl]; rintro r w2 ⟨rfl, rfl⟩)
          | (go_at_call 37; refine (rfail_any hR'.out 4).mono ?_; rintro r w2 ⟨rfl, hR2, hK2⟩))
        go_ret
        rw [hres'.out]
        exact ⟨rfl, hR2, hK.then_ hK2 (fun k hk => .inl hk)⟩
      · have d3 : decide ((l'.length : Int) < n) = false := decide_eq_false c3
        have hres : rdL l f = (n.toNat, l', 0) := by rw [rdL, hn'.out, if_neg (by simp), if_neg c2, if_neg c3]
        have hres' := Aside0.mk hres
        have hnn : ((n.toNat : Nat) : Int) = n := by omega
        have hnn' := Aside0.mk hnn
        clear hres hnn
        go_enter Try.func41, Try.ntmps41
        go_wp2_with (first
          | (go_at_call 15; refine (hnum'.out _ h'.out).mono ?_; rintro r w1 ⟨rfl, hR, hK⟩; obtain ⟨A1, c1, k1⟩ := rest_at hR; have hR' := Aside0.mk hR; clear hR)
          | (go_at_call 35; refine (rbad_any hR'.out).mono ?_; rw [show ((0 : Int) != 0) = false from rfl]; rintro r w2 ⟨rfl, rfl⟩))
        go_ret
        rw [hres'.out]
        exact ⟨by rw [hnn'.out]; rfl, hR'.out, hK⟩
  · have d1 : (f' != 0) = true := by simpa using c1
    have hres : rdL l f = (0, l', f') := by rw [rdL, hn'.out, if_pos c1]
    have hres' := Aside0.mk hres
    clear hres c1
    go_enter Try.func41, Try.ntmps41
    go_wp2_with (first
      | (go_at_call 15; refine (hnum'.out _ h'.out).mono ?_; rintro r w1 ⟨rfl, hR, hK⟩; have hR' := Aside0.mk hR; clear hR)
      | (go_at_call 35; refine (rbad_any hR'.out).mono ?_; rw [d1]; rintro r w2 ⟨rfl, rfl⟩))
    go_ret
    rw [hres'.out]
    exact ⟨rfl, hR'.out, hK⟩

theorem rstring_any {w : World} {ok : Nat → Prop} {p : Nat} {l : List Int} {f : Int} (hR : RRd w ok p l f) (hf : (rdL l f).2.2 ≠ 0 → (rdL l f).2.1 = []) :
    Calls Try.prog 20 #[.pointer (some ⟨p, 0, none⟩)] w fun e w' => e = .returned (.string (strOfNums (rdS l f).1)) ∧ RRd w' ok p (rdS l f).2.1 (rdS l f).2.2 ∧ Kp (fun j => j = p) w w' := by
  have hD := Aside0.mk hR
  clear hR
  obtain ⟨hle1, hle2⟩ := rdL_le l f
  obtain ⟨n, l', f', hn⟩ : ∃ n l' f', rdL l f = (n, l', f') := ⟨_, _, _, rfl⟩
  have hlen := fun w1 (h1 : RRd w1 ok p l f) => rlength_any h1
  have hres : rdS l f = (l'.take n, l'.drop n, f') := by rw [rdS, hn]
  rw [hn] at hlen hle1 hf
  simp only at hf hle1
  have hlen' := Aside0.mk hlen
  have hres' := Aside0.mk hres
  clear hlen hn hle2 hres
  by_cases cf : f' = 0
  · subst cf
    clear hf
    go_enter Try.func20, Try.ntmps20
    go_wp2_with (first
      | (go_at_call 41; refine (hlen'.out _ hD.out).mono ?_; rintro r wa ⟨rfl, hDa, hKa⟩; obtain ⟨A, c, g⟩ := hDa.ex; have c1 : wa.cell? ⟨p, 1, none⟩ = some (.slice A l'.length c) := cell_at g.hp rfl; have f1 : wa.frozen? ⟨p, 1, none⟩ = false := free_at g.hp 1; have hlc := g.hc; have hll := g.hl; obtain ⟨X, hcut, hCX⟩ := row_from (A := A) (n := n) (n : Int) rfl hle1 hlc; have hto : ∀ W : World, (Instr.slice 22 (.slice A l'.length c) none (some (.int .i64 (n : Int))) none).run Try.prog W = .ok (.slice A n c) W := (by obtain ⟨i0, hi, hz⟩ := info5'; exact cut_to 22 5 .i64 Try.underlying22 hi A l'.length c (n : Int) (by omega) (by omega) hlc); have hconv := Kd.C_string (P := Try.prog) (w := wa) (src := 22) (dst := 9) (c := c) Try.underlying22 Try.underlying5 Try.underlying9 (cut_first (g.hC wa (fun _ _ _ _ => rfl)) hle1 hlc); have hg := Aside0.mk g; have hDa' := Aside0.mk (And.intro hDa hCX); have hKa' := Aside0.mk hKa; clear g hDa hKa hCX)
      | (go_at_call 35; refine (rbad_any hDa'.out.1).mono ?_; rw [show ((0 : Int) != 0) = false from rfl]; rintro r w2 ⟨rfl, rfl⟩))
    go_ret
    rw [hres'.out]
    refine ⟨rfl, ⟨⟨X, c - n, hg.out.set ?_ ((Kp.refl _ _).setp 1 _) (by rw [List.length_drop]; omega) (by rw [List.length_drop]; omega) hDa'.out.2 (hg.out.bs.drop _)⟩⟩, hKa'.out.setp 1 _⟩
    rw [List.length_drop, set_at hg.out.hp]
    rfl
  · have d1 : (f' != 0) = true := by simpa using cf
    have hl0 := hf cf
    subst hl0
    clear hf cf
    go_enter Try.func20, Try.ntmps20
    go_wp2_with (first
      | (go_at_call 41; refine (hlen'.out _ hD.out).mono ?_; rintro r wa ⟨rfl, hDa, hKa⟩; have hDa' := Aside0.mk hDa; have hKa' := Aside0.mk hKa; clear hDa hKa)
      | (go_at_call 35; refine (rbad_any hDa'.out).mono ?_; rw [d1]; rintro r w2 ⟨rfl, rfl⟩))
    go_ret
    rw [hres'.out, List.take_nil, List.drop_nil]
    exact ⟨rfl, hDa'.out, hKa'.out⟩
end Go.Proofs.Ytjcekelmbpenkaa
