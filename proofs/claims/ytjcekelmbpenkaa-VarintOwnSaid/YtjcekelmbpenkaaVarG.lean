/- The program's reader: number, length, Int, Err, Len, NewReader. -/
import Derived.Test.YtjcekelmbpenkaaVarF2
set_option linter.unusedVariables false
set_option linter.unusedSimpArgs false
namespace Go.Proofs.Ytjcekelmbpenkaa
open Go.RowKit Go.Proofs.YtjcekelmbpenkaaW.PrintWords Mem VarPure

theorem szc_cases (l : List Int) : (szc l = (0, 3) ∧ szf l = (0, 3)) ∨ (szc l = (0, 4) ∧ szf l = (0, 4)) ∨ ∃ N, szc l = (N + 1, 0) ∧ cnt 10 l = N ∧ N < 10 ∧ N < l.length ∧
    (((0 < N ∧ l.getD N 0 = 0) ∨ (N = 9 ∧ l.getD N 0 ≠ 1)) ∧ szf l = (0, 3) ∨ ¬ ((0 < N ∧ l.getD N 0 = 0) ∨ (N = 9 ∧ l.getD N 0 ≠ 1)) ∧ szf l = (N + 1, 0)) := by
  obtain ⟨b1, b2⟩ := cnt_le 10 l
  unfold szc szf
  by_cases h1 : cnt 10 l = 10
  · rw [if_pos h1, if_pos h1]; exact .inl ⟨rfl, rfl⟩
  by_cases h2 : cnt 10 l = l.length
  · rw [if_neg h1, if_pos h2, if_neg h1, if_pos h2]; exact .inr (.inl ⟨rfl, rfl⟩)
  rw [if_neg h1, if_neg h2, if_neg h1, if_neg h2]
  refine .inr (.inr ⟨cnt 10 l, rfl, rfl, by omega, by omega, ?_⟩)
  by_cases h3 : (0 < cnt 10 l ∧ l.getD (cnt 10 l) 0 = 0) ∨ (cnt 10 l = 9 ∧ l.getD (cnt 10 l) 0 ≠ 1)
  · exact .inl ⟨h3, if_pos h3⟩
  · exact .inr ⟨h3, if_neg h3⟩
theorem rdI_err {l : List Int} {e : Int} (h : szf l = (0, e)) (he : e ≠ 0) : rdI l 0 = (0, [], e) := by
  rw [rdI, if_neg (by simp), h, if_pos he]
theorem rdI_ok {l : List Int} {n : Nat} (h : szf l = (n, 0)) : rdI l 0 = (uzz (valF (l.take n)), l.drop n, 0) := by
  rw [rdI, if_neg (by simp), h, if_neg (by simp)]

theorem num_any {w : World} {ok : Nat → Prop} {p c i : Nat} {A : Option Addr} {b : List Int} {f : Int} (h : Cur w ok p A c b i f) :
    Calls Try.prog 34 #[.pointer (some ⟨p, 0, none⟩)] w (Num w ok p c i A b f) := by
  by_cases hf : f = 0
  · subst hf
    rcases szc_cases (b.drop i) with ⟨h1, h2⟩ | ⟨h1, h2⟩ | ⟨N, h1, h2, h3, h4, h5⟩
    · exact num_err h 3 h1 (.inl rfl) (rdI_err h2 (by decide))
    · exact num_err h 4 h1 (.inr rfl) (rdI_err h2 (by decide))
    · have hi := h.hi
      rw [List.length_drop] at h4
      have hg : (b.drop i).getD N 0 = b.getD (i + N) 0 := by simp
      rw [hg] at h5
      rcases h5 with ⟨h5, h6⟩ | ⟨h5, h6⟩
      · have hr := rdI_err h6 (by decide)
        by_cases g : 0 < N ∧ b.getD (i + N) 0 = 0
        · exact num_a h h1 h3 (by omega) g.2 hr (by simp; omega) rfl
        · have g2 : N = 9 ∧ b.getD (i + N) 0 ≠ 1 := by
            rcases h5 with h5 | h5
            · exact absurd h5 g
            · exact h5
          obtain ⟨x, hx⟩ : ∃ x, x = b.getD (i + N) 0 := ⟨_, rfl⟩
          rw [← hx] at g g2
          exact num_b h h1 h3 (by omega) hx.symm hr (by simp; omega) (by simp; omega) (by simp; omega) (by simp; omega)
      · have hr := rdI_ok h6
        rw [List.drop_drop] at hr
        have hv : valF ((b.drop i).take (N + 1)) < 18446744073709551616 := by
          have := val_lt (h.bs.drop i) (by rw [h6])
          rwa [h6] at this
        obtain ⟨x, hx⟩ : ∃ x, x = b.getD (i + N) 0 := ⟨_, rfl⟩
        rw [← hx] at h5
        by_cases g : N = 0
        · exact num_z h h1 h3 (by omega) hx.symm hr hv (by simp; omega) (by simp; omega)
        · by_cases g2 : N = 9
          · exact num_t h h1 h3 (by omega) hx.symm hr hv (by simp; omega) (by simp; omega) (by simp; omega) (by simp; omega)
          · exact num_m h h1 h3 (by omega) hx.symm hr hv (by simp; omega) (by simp; omega) (by simp; omega)
  · exact num_fail h hf

/-- What a read of a number does to a reader. -/
theorem number_any {w : World} {ok : Nat → Prop} {p : Nat} {l : List Int} {f : Int} (h : Rdr w ok p l f) :
    Calls Try.prog 34 #[.pointer (some ⟨p, 0, none⟩)] w fun e w' => e = .returned (.int .i64 (rdI l f).1) ∧ Rdr w' ok p (rdI l f).2.1 (rdI l f).2.2 ∧ Kp (fun k => k = p) w w' := by
  obtain ⟨A, c, b, i, g, rfl⟩ := h.ex
  refine (num_any g).mono ?_
  rintro e w' ⟨rfl, ⟨i', hC, he⟩, hK⟩
  exact ⟨rfl, ⟨⟨A, c, b, i', hC, he⟩⟩, hK⟩

theorem leftr {w : World} {ok : Nat → Prop} {p : Nat} {l : List Int} {f : Int} (h : Rdr w ok p l f) :
    Calls Try.prog 42 #[.pointer (some ⟨p, 0, none⟩)] w fun e w' => e = .returned (.int .i64 (l.length : Int)) ∧ ∃ n, w' = w.drewN n := by
  obtain ⟨A, c, b, i, g, rfl⟩ := h.ex
  rw [List.length_drop]
  exact left_any g
theorem stopr {w : World} {ok : Nat → Prop} {p : Nat} {l : List Int} (h : Rdr w ok p l 0) (e : Int) (he : I64 e) :
    Calls Try.prog 46 #[.pointer (some ⟨p, 0, none⟩), .int .i64 e] w fun r w' => r = .returned (.tuple #[]) ∧ Rdr w' ok p [] e ∧ Kp (fun k => k = p) w w' := by
  obtain ⟨A, c, b, i, g, rfl⟩ := h.ex
  refine (stop_ok g e he).mono ?_
  rintro r w' ⟨rfl, hC, hK⟩
  exact ⟨rfl, ⟨⟨A, c, b, b.length, hC, by simp⟩⟩, hK⟩
theorem okr {w : World} {ok : Nat → Prop} {p : Nat} {l : List Int} {f : Int} (h : Rdr w ok p l f) : Calls Try.prog 33 #[.pointer (some ⟨p, 0, none⟩)] w fun e w' => e = .returned (.bool true) ∧ w' = w := by
  obtain ⟨A, c, b, i, g, rfl⟩ := h.ex
  exact ok_any w g.hp
theorem fail_at {w : World} {ok : Nat → Prop} {p : Nat} {l : List Int} {f : Int} (h : Rdr w ok p l f) : w.cell? ⟨p, 2, none⟩ = some (.int .i64 f) := by
  obtain ⟨A, c, b, i, g, rfl⟩ := h.ex
  exact cell_at g.hp rfl

theorem int_any {w : World} {ok : Nat → Prop} {p : Nat} {l : List Int} {f : Int} (h : Rdr w ok p l f) :
    Calls Try.prog 14 #[.pointer (some ⟨p, 0, none⟩)] w fun e w' => e = .returned (.int .i64 (rdI l f).1) ∧ Rdr w' ok p (rdI l f).2.1 (rdI l f).2.2 ∧ Kp (fun k => k = p) w w' := by
  have h' := Aside0.mk h
  clear h
  go_enter Try.func14, Try.ntmps14
  go_wp2_with (first
    | (go_at_call 33; refine (okr h'.out).mono ?_; rintro r w1 ⟨rfl, rfl⟩)
    | (go_at_call 34; refine (number_any h'.out).mono ?_; rintro r w1 ⟨rfl, hR, hK⟩))
  go_ret
  exact ⟨rfl, hR, hK⟩
theorem err_any {w : World} {ok : Nat → Prop} {p : Nat} {l : List Int} {f : Int} (h : Rdr w ok p l f) :
    Calls Try.prog 21 #[.pointer (some ⟨p, 0, none⟩)] w fun e w' => e = .returned (.int .i64 f) ∧ w' = w := by
  have h' := Aside0.mk h
  have c2 := fail_at h
  clear h
  go_enter Try.func21, Try.ntmps21
  go_wp2_with (first
    | (go_at_call 33; refine (okr h'.out).mono ?_; rintro r w1 ⟨rfl, rfl⟩))
  go_ret
  exact ⟨rfl, rfl⟩
theorem len_any {w : World} {ok : Nat → Prop} {p : Nat} {l : List Int} {f : Int} (h : Rdr w ok p l f) :
    Calls Try.prog 23 #[.pointer (some ⟨p, 0, none⟩)] w fun e w' => e = .returned (.int .i64 (l.length : Int)) ∧ ∃ n, w' = w.drewN n := by
  have h' := Aside0.mk h
  clear h
  go_enter Try.func23, Try.ntmps23
  go_wp2_with (first
    | (go_at_call 33; refine (okr h'.out).mono ?_; rintro r w1 ⟨rfl, rfl⟩)
    | (go_at_call 42; refine (leftr h'.out).mono ?_; rintro r w1 ⟨rfl, n, rfl⟩))
  go_ret
  exact ⟨rfl, _, rfl⟩

theorem length_any {w : World} {ok : Nat → Prop} {p : Nat} {l : List Int} {f : Int} (h : Rdr w ok p l f) :
    Calls Try.prog 40 #[.pointer (some ⟨p, 0, none⟩)] w fun e w' => e = .returned (.int .i64 ((rdL l f).1 : Int)) ∧ Rdr w' ok p (rdL l f).2.1 (rdL l f).2.2 ∧ Kp (fun k => k = p) w w' := by
  obtain ⟨n, l', f', hn⟩ : ∃ n l' f', rdI l f = (n, l', f') := ⟨_, _, _, rfl⟩
  have h' := Aside0.mk h
  have hn' := Aside0.mk hn
  have hlI : I64 n := by have := rdI_I64 h.bs.1 f; rwa [hn] at this
  have hl' : l'.length ≤ 100000 := by have h3 : l'.length ≤ l.length := (by have := rdI_len l f; rw [hn] at this; exact this); have := h.bs.2; omega
  clear h hn
  have hnum := fun w1 (h1 : Rdr w1 ok p l f) => number_any h1
  rw [hn'.out] at hnum
  have hnum' := Aside0.mk hnum
  clear hnum
  obtain ⟨hI1, hI2⟩ := hlI
  by_cases c1 : f' = 0
  · subst c1
    by_cases c2 : n < 0
    · have d2 : decide (n < 0) = true := decide_eq_true c2
      have hres : rdL l f = (0, [], 3) := by rw [rdL, hn'.out, if_neg (by simp), if_pos c2]
      have hres' := Aside0.mk hres
      clear hres
      go_enter Try.func40, Try.ntmps40
      go_wp2_with (first
        | (go_at_call 34; refine (hnum'.out _ h'.out).mono ?_; rintro r w1 ⟨rfl, hR, hK⟩; have k2 := fail_at hR; have hR' := Aside0.mk hR; clear hR)
        | (go_at_call 46; refine (stopr hR'.out 3 (by unfold I64; omega)).mono ?_; rintro r w2 ⟨rfl, hR2, hK2⟩))
      go_ret
      rw [hres'.out]
      exact ⟨rfl, hR2, hK.then_ hK2 (fun k hk => .inl hk)⟩
    · have d2 : decide (n < 0) = false := decide_eq_false c2
      by_cases c3 : (l'.length : Int) < n
      · have d3 : decide ((l'.length : Int) < n) = true := decide_eq_true c3
        have hres : rdL l f = (0, [], 4) := by rw [rdL, hn'.out, if_neg (by simp), if_neg c2, if_pos c3]
        have hres' := Aside0.mk hres
        clear hres
        go_enter Try.func40, Try.ntmps40
        go_wp2_with (first
          | (go_at_call 34; refine (hnum'.out _ h'.out).mono ?_; rintro r w1 ⟨rfl, hR, hK⟩; have k2 := fail_at hR; have hR' := Aside0.mk hR; clear hR)
          | (go_at_call 42; refine (leftr hR'.out).mono ?_; rintro r w2 ⟨rfl, m, rfl⟩)
          | (go_at_call 46; refine (stopr (w := w1.drewN m) (hR'.out.step (fun k _ _ => rfl)) 4 (by unfold I64; omega)).mono ?_; rintro r w2 ⟨rfl, hR2, hK2⟩))
        go_ret
        rw [hres'.out]
        exact ⟨rfl, hR2, (hK.drewN m).then_ hK2 (fun k hk => .inl hk)⟩
      · have d3 : decide ((l'.length : Int) < n) = false := decide_eq_false c3
        have hres : rdL l f = (n.toNat, l', 0) := by rw [rdL, hn'.out, if_neg (by simp), if_neg c2, if_neg c3]
        have hres' := Aside0.mk hres
        have hnn : ((n.toNat : Nat) : Int) = n := by omega
        have hnn' := Aside0.mk hnn
        clear hres hnn
        go_enter Try.func40, Try.ntmps40
        go_wp2_with (first
          | (go_at_call 34; refine (hnum'.out _ h'.out).mono ?_; rintro r w1 ⟨rfl, hR, hK⟩; have k2 := fail_at hR; have hR' := Aside0.mk hR; clear hR)
          | (go_at_call 42; refine (leftr hR'.out).mono ?_; rintro r w2 ⟨rfl, m, rfl⟩))
        go_ret
        rw [hres'.out]
        exact ⟨by rw [hnn'.out]; rfl, hR'.out.step (fun k _ _ => rfl), hK.drewN m⟩
  · have d1 : (f' != 0) = true := by simpa using c1
    have hres : rdL l f = (0, l', f') := by rw [rdL, hn'.out, if_pos c1]
    have hres' := Aside0.mk hres
    clear hres c1
    go_enter Try.func40, Try.ntmps40
    go_wp2_with (first
      | (go_at_call 34; refine (hnum'.out _ h'.out).mono ?_; rintro r w1 ⟨rfl, hR, hK⟩; have k2 := fail_at hR; have hR' := Aside0.mk hR; clear hR))
    go_ret
    rw [hres'.out]
    exact ⟨rfl, hR'.out, hK⟩
end Go.Proofs.Ytjcekelmbpenkaa
