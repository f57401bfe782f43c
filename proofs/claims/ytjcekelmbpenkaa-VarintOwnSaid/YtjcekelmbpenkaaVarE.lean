/- The program's cursor: size. Written by mkE.py. -/
import Derived.Test.YtjcekelmbpenkaaVarD
set_option linter.unusedVariables false
set_option linter.unusedSimpArgs false
namespace Go.Proofs.Ytjcekelmbpenkaa
open Go.RowKit Go.Proofs.YtjcekelmbpenkaaW.PrintWords Mem VarPure

theorem Cur.at_ {w : World} {ok : Nat → Prop} {p c i : Nat} {A : Option Addr} {b : List Int} {f : Int} (h : Cur w ok p A c b i f) (j : Nat) (hj : j < b.length) : ∃ ad, A = some ad ∧ w.cell? (ad.add j) = some (.int .u8 (b.getD j 0)) := by
  obtain ⟨A', c', e, _, hC⟩ := Kd.R_reads h.hR
  injection e with e1 e2 e3
  subst e1
  obtain ⟨ad, rfl, hc0⟩ := (Kd.reads_of_C (enc := Value.int .u8) (d := (0 : Int)) (h1 := fun _ => rfl) hC).at_ j (by omega) (by omega)
  exact ⟨ad, rfl, by simpa [rdOf, hj] using hc0⟩

set_option maxHeartbeats 1000000 in
theorem size_hi {w : World} {ok : Nat → Prop} {p c i : Nat} {A : Option Addr} {b : List Int} {f : Int} (h : Cur w ok p A c b i f) (hM : 10 < b.length - i) :
    Calls Try.prog 45 #[.pointer (some ⟨p, 0, none⟩)] w fun e w' => e = .returned (.tuple #[.int .i64 ((szc (b.drop i)).1 : Nat), .int .i64 (szc (b.drop i)).2]) ∧ ∃ n, w' = w.drewN n := by
  have hi := h.hi
  have hb := h.hb
  obtain ⟨k1, k2⟩ := cnt_le 10 (b.drop i)
  obtain ⟨s1, s2⟩ := cnt_spec 10 (b.drop i)
  rw [List.length_drop] at k2
  have hs := Aside0.mk (And.intro s1 s2)
  clear s1 s2
  have h' := Aside0.mk h
  have c0 : ∀ n, (w.drewN n).cell? ⟨p, 0, none⟩ = some (.slice A b.length c) := fun n => cell_at (w := w.drewN n) h.hp rfl
  have c1 : ∀ n, (w.drewN n).cell? ⟨p, 1, none⟩ = some (.int .i64 i) := fun n => cell_at (w := w.drewN n) h.hp rfl
  clear h
  obtain ⟨N, hN⟩ : ∃ N, N = cnt 10 (b.drop i) := ⟨_, rfl⟩
  rw [← hN] at k1 k2 hs
  have hN' := Aside0.mk hN
  clear hN
  have hMM := Aside0.mk hM
  go_enter Try.func45, Try.ntmps45
  go_wp2_with (go_at_call 42; refine (left_any h'.out).mono ?_; rintro e w1 ⟨rfl, n1, rfl⟩)
  go_loopw [8] (fun v wr => ∃ j : Nat, j ≤ N ∧ v = .int .i64 j ∧ ∃ n, wr = w.drewN n) (fun v _ => N - (intOf v).toNat)
  case atStart => exact ⟨0, Nat.zero_le _, rfl, _, rfl⟩
  case round =>
    obtain ⟨j, hj, rfl, n, rfl⟩ := hrel
    by_cases hlt : j < 10
    · have hb2 : i + j < b.length := by omega
      obtain ⟨ad, rfl, hc⟩ := h'.out.at_ (i + j) hb2
      have hc1 : ∀ q, (w.drewN q).cell? (ad.add (i + j)) = some (.int .u8 (b.getD (i + j) 0)) := fun q => hc
      have hx : (b.drop i)[j]? = some (b.getD (i + j) 0) := by simp [hb2]
      obtain ⟨x, hxe⟩ : ∃ x, x = b.getD (i + j) 0 := ⟨_, rfl⟩
      rw [← hxe] at hc hc1 hx
      have hx' := Aside0.mk hx
      clear hxe hx
      by_cases hN2 : j < N
      · have hge : decide (x < 128) = false := by have := hs.out.1 j x hN2 hx'.out; simp; omega
        go_wp2
        go_quiet (fail)
        go_wp2
        go_roundw
        case rel => exact ⟨j + 1, by omega, by go_num, _, rfl⟩
        case measure => simp [intOf]; omega
      · have hjN : j = N := by omega
        have hjA := Aside0.mk hjN
        have hN10 : N < 10 := by omega
        have hNl : N < b.length - i := by omega
        have hlt2 : decide (x < 128) = true := by have := hs.out.2 (by omega) x (hjN ▸ hx'.out); simp; omega
        clear hjN hN2
        go_wp2
        go_quiet (fail)
        go_wp2
        go_ret2
        have e : szc (b.drop i) = (N + 1, 0) := by
          rw [szc, ← hN'.out, if_neg (by omega), if_neg (by rw [List.length_drop]; omega)]
        rw [e]
        refine ⟨?_, _, rfl⟩
        simp [hjA.out]
    · have hjN : j = N := by omega
      have hjA := Aside0.mk hjN
      clear hjN
      go_wp2_with (go_at_call 42; refine (left_any (w := w.drewN n) (h'.out.step (fun k _ _ => rfl))).mono ?_; rintro e w1 ⟨rfl, n2, rfl⟩)
      go_ret2
      have e : szc (b.drop i) = (0, 3) := by
        have := hMM.out
        have := hjA.out
        rw [szc, ← hN'.out, if_pos (by omega)]
      rw [e]
      exact ⟨rfl, n + n2, rfl⟩

set_option maxHeartbeats 1000000 in
theorem size_eq {w : World} {ok : Nat → Prop} {p c i : Nat} {A : Option Addr} {b : List Int} {f : Int} (h : Cur w ok p A c b i f) (hM : b.length - i = 10) :
    Calls Try.prog 45 #[.pointer (some ⟨p, 0, none⟩)] w fun e w' => e = .returned (.tuple #[.int .i64 ((szc (b.drop i)).1 : Nat), .int .i64 (szc (b.drop i)).2]) ∧ ∃ n, w' = w.drewN n := by
  have hi := h.hi
  have hb := h.hb
  obtain ⟨k1, k2⟩ := cnt_le 10 (b.drop i)
  obtain ⟨s1, s2⟩ := cnt_spec 10 (b.drop i)
  rw [List.length_drop] at k2
  have hs := Aside0.mk (And.intro s1 s2)
  clear s1 s2
  have h' := Aside0.mk h
  have c0 : ∀ n, (w.drewN n).cell? ⟨p, 0, none⟩ = some (.slice A b.length c) := fun n => cell_at (w := w.drewN n) h.hp rfl
  have c1 : ∀ n, (w.drewN n).cell? ⟨p, 1, none⟩ = some (.int .i64 i) := fun n => cell_at (w := w.drewN n) h.hp rfl
  clear h
  obtain ⟨N, hN⟩ : ∃ N, N = cnt 10 (b.drop i) := ⟨_, rfl⟩
  rw [← hN] at k1 k2 hs
  have hN' := Aside0.mk hN
  clear hN
  have hMM := Aside0.mk hM
  go_enter Try.func45, Try.ntmps45
  go_wp2_with (go_at_call 42; refine (left_any h'.out).mono ?_; rintro e w1 ⟨rfl, n1, rfl⟩)
  go_loopw [8] (fun v wr => ∃ j : Nat, j ≤ N ∧ v = .int .i64 j ∧ ∃ n, wr = w.drewN n) (fun v _ => N - (intOf v).toNat)
  case atStart => exact ⟨0, Nat.zero_le _, rfl, _, rfl⟩
  case round =>
    obtain ⟨j, hj, rfl, n, rfl⟩ := hrel
    by_cases hlt : j < 10
    · have hb2 : i + j < b.length := by omega
      obtain ⟨ad, rfl, hc⟩ := h'.out.at_ (i + j) hb2
      have hc1 : ∀ q, (w.drewN q).cell? (ad.add (i + j)) = some (.int .u8 (b.getD (i + j) 0)) := fun q => hc
      have hx : (b.drop i)[j]? = some (b.getD (i + j) 0) := by simp [hb2]
      obtain ⟨x, hxe⟩ : ∃ x, x = b.getD (i + j) 0 := ⟨_, rfl⟩
      rw [← hxe] at hc hc1 hx
      have hx' := Aside0.mk hx
      clear hxe hx
      by_cases hN2 : j < N
      · have hge : decide (x < 128) = false := by have := hs.out.1 j x hN2 hx'.out; simp; omega
        go_wp2
        go_quiet (fail)
        go_wp2
        go_roundw
        case rel => exact ⟨j + 1, by omega, by go_num, _, rfl⟩
        case measure => simp [intOf]; omega
      · have hjN : j = N := by omega
        have hjA := Aside0.mk hjN
        have hN10 : N < 10 := by omega
        have hNl : N < b.length - i := by omega
        have hlt2 : decide (x < 128) = true := by have := hs.out.2 (by omega) x (hjN ▸ hx'.out); simp; omega
        clear hjN hN2
        go_wp2
        go_quiet (fail)
        go_wp2
        go_ret2
        have e : szc (b.drop i) = (N + 1, 0) := by
          rw [szc, ← hN'.out, if_neg (by omega), if_neg (by rw [List.length_drop]; omega)]
        rw [e]
        refine ⟨?_, _, rfl⟩
        simp [hjA.out]
    · have hjN : j = N := by omega
      have hjA := Aside0.mk hjN
      clear hjN
      go_wp2_with (go_at_call 42; refine (left_any (w := w.drewN n) (h'.out.step (fun k _ _ => rfl))).mono ?_; rintro e w1 ⟨rfl, n2, rfl⟩)
      go_ret2
      have e : szc (b.drop i) = (0, 3) := by
        have := hMM.out
        have := hjA.out
        rw [szc, ← hN'.out, if_pos (by omega)]
      rw [e]
      exact ⟨rfl, n + n2, rfl⟩

set_option maxHeartbeats 1000000 in
theorem size_lo {w : World} {ok : Nat → Prop} {p c i : Nat} {A : Option Addr} {b : List Int} {f : Int} (h : Cur w ok p A c b i f) (hM : b.length - i < 10) :
    Calls Try.prog 45 #[.pointer (some ⟨p, 0, none⟩)] w fun e w' => e = .returned (.tuple #[.int .i64 ((szc (b.drop i)).1 : Nat), .int .i64 (szc (b.drop i)).2]) ∧ ∃ n, w' = w.drewN n := by
  have hi := h.hi
  have hb := h.hb
  obtain ⟨k1, k2⟩ := cnt_le 10 (b.drop i)
  obtain ⟨s1, s2⟩ := cnt_spec 10 (b.drop i)
  rw [List.length_drop] at k2
  have hs := Aside0.mk (And.intro s1 s2)
  clear s1 s2
  have h' := Aside0.mk h
  have c0 : ∀ n, (w.drewN n).cell? ⟨p, 0, none⟩ = some (.slice A b.length c) := fun n => cell_at (w := w.drewN n) h.hp rfl
  have c1 : ∀ n, (w.drewN n).cell? ⟨p, 1, none⟩ = some (.int .i64 i) := fun n => cell_at (w := w.drewN n) h.hp rfl
  clear h
  obtain ⟨N, hN⟩ : ∃ N, N = cnt 10 (b.drop i) := ⟨_, rfl⟩
  rw [← hN] at k1 k2 hs
  have hN' := Aside0.mk hN
  clear hN
  have hMM := Aside0.mk hM
  go_enter Try.func45, Try.ntmps45
  go_wp2_with (go_at_call 42; refine (left_any h'.out).mono ?_; rintro e w1 ⟨rfl, n1, rfl⟩)
  go_loopw [8] (fun v wr => ∃ j : Nat, j ≤ N ∧ v = .int .i64 j ∧ ∃ n, wr = w.drewN n) (fun v _ => N - (intOf v).toNat)
  case atStart => exact ⟨0, Nat.zero_le _, rfl, _, rfl⟩
  case round =>
    obtain ⟨j, hj, rfl, n, rfl⟩ := hrel
    by_cases hlt : j < b.length - i
    · have hb2 : i + j < b.length := by omega
      obtain ⟨ad, rfl, hc⟩ := h'.out.at_ (i + j) hb2
      have hc1 : ∀ q, (w.drewN q).cell? (ad.add (i + j)) = some (.int .u8 (b.getD (i + j) 0)) := fun q => hc
      have hx : (b.drop i)[j]? = some (b.getD (i + j) 0) := by simp [hb2]
      obtain ⟨x, hxe⟩ : ∃ x, x = b.getD (i + j) 0 := ⟨_, rfl⟩
      rw [← hxe] at hc hc1 hx
      have hx' := Aside0.mk hx
      clear hxe hx
      by_cases hN2 : j < N
      · have hge : decide (x < 128) = false := by have := hs.out.1 j x hN2 hx'.out; simp; omega
        go_wp2
        go_quiet (fail)
        go_wp2
        go_roundw
        case rel => exact ⟨j + 1, by omega, by go_num, _, rfl⟩
        case measure => simp [intOf]; omega
      · have hjN : j = N := by omega
        have hjA := Aside0.mk hjN
        have hN10 : N < 10 := by omega
        have hNl : N < b.length - i := by omega
        have hlt2 : decide (x < 128) = true := by have := hs.out.2 (by omega) x (hjN ▸ hx'.out); simp; omega
        clear hjN hN2
        go_wp2
        go_quiet (fail)
        go_wp2
        go_ret2
        have e : szc (b.drop i) = (N + 1, 0) := by
          rw [szc, ← hN'.out, if_neg (by omega), if_neg (by rw [List.length_drop]; omega)]
        rw [e]
        refine ⟨?_, _, rfl⟩
        simp [hjA.out]
    · have hjN : j = N := by omega
      have hjA := Aside0.mk hjN
      clear hjN
      go_wp2_with (go_at_call 42; refine (left_any (w := w.drewN n) (h'.out.step (fun k _ _ => rfl))).mono ?_; rintro e w1 ⟨rfl, n2, rfl⟩)
      go_ret2
      have e : szc (b.drop i) = (0, 4) := by
        have := hMM.out
        have := hjA.out
        rw [szc, ← hN'.out, if_neg (by omega), if_pos (by rw [List.length_drop]; omega)]
      rw [e]
      exact ⟨rfl, n + n2, rfl⟩

theorem size_any {w : World} {ok : Nat → Prop} {p c i : Nat} {A : Option Addr} {b : List Int} {f : Int} (h : Cur w ok p A c b i f) :
    Calls Try.prog 45 #[.pointer (some ⟨p, 0, none⟩)] w fun e w' => e = .returned (.tuple #[.int .i64 ((szc (b.drop i)).1 : Nat), .int .i64 (szc (b.drop i)).2]) ∧ ∃ n, w' = w.drewN n := by
  rcases Nat.lt_trichotomy 10 (b.length - i) with c | c | c
  · exact size_hi h c
  · exact size_eq h c.symm
  · exact size_lo h c
end Go.Proofs.Ytjcekelmbpenkaa
