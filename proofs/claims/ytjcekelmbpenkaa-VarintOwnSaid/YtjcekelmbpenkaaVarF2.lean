/- The program's cursor: number. -/
import Derived.Test.YtjcekelmbpenkaaVarE
import Derived.Deep.Slices
set_option linter.unusedVariables false
set_option linter.unusedSimpArgs false
namespace Go.Proofs.Ytjcekelmbpenkaa
open Go.RowKit Go.Proofs.YtjcekelmbpenkaaW.PrintWords Mem VarPure

theorem dd (w : World) (a b : Nat) : ∃ n, (w.drewN a).drewN b = w.drewN n := ⟨a + b, by first | rfl | simp | simp [World.drewN_add]⟩
/-- What number does. -/
def Num (w : World) (ok : Nat → Prop) (p c i : Nat) (A : Option Addr) (b : List Int) (f : Int) (e : Ending) (w' : World) : Prop :=
  e = .returned (.int .i64 (rdI (b.drop i) f).1) ∧ (∃ i', Cur w' ok p A c b i' (rdI (b.drop i) f).2.2 ∧ (rdI (b.drop i) f).2.1 = b.drop i') ∧ Kp (fun k => k = p) w w'

theorem num_fail {w : World} {ok : Nat → Prop} {p c i : Nat} {A : Option Addr} {b : List Int} {f : Int} (h : Cur w ok p A c b i f) (hf : f ≠ 0) :
    Calls Try.prog 34 #[.pointer (some ⟨p, 0, none⟩)] w (Num w ok p c i A b f) := by
  have c2 : w.cell? ⟨p, 2, none⟩ = some (.int .i64 f) := cell_at h.hp rfl
  have h' := Aside0.mk h
  have hf' := Aside0.mk hf
  have hd : (f != 0) = true := by simpa using hf
  clear h hf
  go_enter Try.func34, Try.ntmps34
  go_wp2
  go_ret
  rw [Num, rdI_fail _ hf'.out]
  exact ⟨rfl, ⟨i, h'.out, rfl⟩, Kp.refl _ _⟩

theorem num_err {w : World} {ok : Nat → Prop} {p c i : Nat} {A : Option Addr} {b : List Int} (h : Cur w ok p A c b i 0) (e : Int) (he : szc (b.drop i) = (0, e)) (h0 : e = 3 ∨ e = 4) (hr : rdI (b.drop i) 0 = (0, [], e)) :
    Calls Try.prog 34 #[.pointer (some ⟨p, 0, none⟩)] w (Num w ok p c i A b 0) := by
  have c2 : w.cell? ⟨p, 2, none⟩ = some (.int .i64 0) := cell_at h.hp rfl
  have h' := Aside0.mk h
  have he' := Aside0.mk he
  have hr' := Aside0.mk hr
  have h0' := Aside0.mk h0
  have hd : (e != 0) = true := by rcases h0 with rfl | rfl <;> decide
  clear h he hr h0
  go_enter Try.func34, Try.ntmps34
  go_wp2_with (first
    | (go_at_call 45; refine (size_any h'.out).mono ?_; rw [he'.out]; rintro r w1 ⟨rfl, n1, rfl⟩)
    | (go_at_call 46; refine (stop_ok (w := w.drewN n1) (h'.out.step (fun k _ _ => rfl)) e (by have := h0'.out; unfold I64; omega)).mono ?_; rintro r w1 ⟨rfl, hC, hK⟩))
  go_ret
  rw [Num, hr'.out]
  exact ⟨rfl, ⟨b.length, hC, by simp⟩, ((Kp.refl _ w).drewN n1).then_ hK (fun k hk => .inl hk)⟩

set_option maxHeartbeats 1000000 in
theorem num_z {w : World} {ok : Nat → Prop} {p c i N : Nat} {A : Option Addr} {b : List Int} {x : Int} (h : Cur w ok p A c b i 0) (he : szc (b.drop i) = (N + 1, 0)) (h1 : N < 10) (h2 : i + N < b.length) (hx : b.getD (i + N) 0 = x)
    (hr : rdI (b.drop i) 0 = (uzz (valF ((b.drop i).take (N + 1))), b.drop (i + (N + 1)), 0)) (hv : valF ((b.drop i).take (N + 1)) < 18446744073709551616) (f1 : decide (1 < (N : Int) + 1) = false) (f3 : ((N : Int) + 1 == 10) = false) :
    Calls Try.prog 34 #[.pointer (some ⟨p, 0, none⟩)] w (Num w ok p c i A b 0) := by
  have c2 : w.cell? ⟨p, 2, none⟩ = some (.int .i64 0) := cell_at h.hp rfl
  have c0 : ∀ n, (w.drewN n).cell? ⟨p, 0, none⟩ = some (.slice A b.length c) := fun n => cell_at (w := w.drewN n) h.hp rfl
  have c1 : ∀ n, (w.drewN n).cell? ⟨p, 1, none⟩ = some (.int .i64 i) := fun n => cell_at (w := w.drewN n) h.hp rfl
  obtain ⟨ad, rfl, hc⟩ := h.at_ (i + N) h2
  rw [hx] at hc
  have hc1 : ∀ q, (w.drewN q).cell? (ad.add (i + N)) = some (.int .u8 x) := fun q => hc
  have hb := h.hb
  have hlc : b.length ≤ c := by obtain ⟨A', c', e, hle, _⟩ := Kd.R_reads h.hR; injection e with e1 e2 e3; omega
  have h' := Aside0.mk h
  have he' := Aside0.mk he
  have hr' := Aside0.mk hr
  have hx' := Aside0.mk hx
  clear h he hr hx
  have hva := Aside0.mk hv
  clear hv
  go_enter Try.func34, Try.ntmps34
  go_wp2_with (first
    | (go_at_call 45; refine (size_any h'.out).mono ?_; rw [he'.out]; rintro r w1 ⟨rfl, n1, rfl⟩))
  go_quiet (fail)
  go_wp2
  go_quiet (fail)
  go_wp2
  have hvb := Aside0.mk (val_or (h'.out.bs.drop i) hva.out)
  go_loopw [6, 69] (fun v6 v69 wr => ∃ j z : Nat, j ≤ N + 1 ∧ v6 = .int .u64 z ∧ v69 = .int .i64 j ∧ Aside0 (z = valF ((b.drop i).take j)) ∧ ∃ n, wr = w.drewN n) (fun _ v _ => N + 1 - (intOf v).toNat)
  case atStart => exact ⟨0, 0, Nat.zero_le _, rfl, rfl, ⟨by simp [valF]⟩, dd _ _ _⟩
  case round =>
    obtain ⟨j, z, hj, rfl, rfl, hz, n, rfl⟩ := hrel
    by_cases hlt : j < N + 1
    · have hb2 : i + j < b.length := by omega
      obtain ⟨ad2, e2, hc⟩ := h'.out.at_ (i + j) hb2
      injection e2 with e2
      subst e2
      obtain ⟨y, hy⟩ : ∃ y, y = b.getD (i + j) 0 := ⟨_, rfl⟩
      have hcj : (w.drewN n).cell? ((ad.add i).add j) = some (.int .u8 y) := by rw [Go.Deep.add_add, hy]; exact hc
      have hor := hvb.out j (by omega) y (by rw [hy]; simp [hb2])
      have hor' := Aside0.mk hor
      clear hor hc hy
      go_wp2
      go_roundw
      case rel => exact ⟨j + 1, valF ((b.drop i).take (j + 1)), by omega, by rw [hz.out]; exact congrArg _ hor'.out, by go_num, ⟨rfl⟩, _, rfl⟩
      case measure => simp [intOf]; omega
    · have hjN : j = N + 1 := by omega
      have hzz := hz.out
      rw [hjN] at hzz
      have hz64 : z < 18446744073709551616 := by rw [hzz]; exact hva.out
      have hzz' := Aside0.mk hzz
      clear hzz hjN
      have f1 : (w.drewN n).frozen? ⟨p, 1, none⟩ = false := free_at (w := w.drewN n) h'.out.hp 1
      go_wp2_with (go_at_call 47; refine (unzz_any z _ hz64).mono ?_; rintro r w2 ⟨rfl, rfl⟩)
      go_ret
      rw [Num, hr'.out]
      refine ⟨by rw [hzz'.out]; rfl, ⟨i + (N + 1), ?_, rfl⟩, ((Kp.refl _ w).drewN n).setp 1 _⟩
      refine h'.out.set ?_ (by omega) (((Kp.refl _ w).drewN n).setp 1 _)
      rw [set_at (w := w.drewN n) h'.out.hp]
      rfl

set_option maxHeartbeats 1000000 in
theorem num_m {w : World} {ok : Nat → Prop} {p c i N : Nat} {A : Option Addr} {b : List Int} {x : Int} (h : Cur w ok p A c b i 0) (he : szc (b.drop i) = (N + 1, 0)) (h1 : N < 10) (h2 : i + N < b.length) (hx : b.getD (i + N) 0 = x)
    (hr : rdI (b.drop i) 0 = (uzz (valF ((b.drop i).take (N + 1))), b.drop (i + (N + 1)), 0)) (hv : valF ((b.drop i).take (N + 1)) < 18446744073709551616) (f1 : decide (1 < (N : Int) + 1) = true) (f2 : (x == 0) = false) (f3 : ((N : Int) + 1 == 10) = false) :
    Calls Try.prog 34 #[.pointer (some ⟨p, 0, none⟩)] w (Num w ok p c i A b 0) := by
  have c2 : w.cell? ⟨p, 2, none⟩ = some (.int .i64 0) := cell_at h.hp rfl
  have c0 : ∀ n, (w.drewN n).cell? ⟨p, 0, none⟩ = some (.slice A b.length c) := fun n => cell_at (w := w.drewN n) h.hp rfl
  have c1 : ∀ n, (w.drewN n).cell? ⟨p, 1, none⟩ = some (.int .i64 i) := fun n => cell_at (w := w.drewN n) h.hp rfl
  obtain ⟨ad, rfl, hc⟩ := h.at_ (i + N) h2
  rw [hx] at hc
  have hc1 : ∀ q, (w.drewN q).cell? (ad.add (i + N)) = some (.int .u8 x) := fun q => hc
  have hb := h.hb
  have hlc : b.length ≤ c := by obtain ⟨A', c', e, hle, _⟩ := Kd.R_reads h.hR; injection e with e1 e2 e3; omega
  have h' := Aside0.mk h
  have he' := Aside0.mk he
  have hr' := Aside0.mk hr
  have hx' := Aside0.mk hx
  clear h he hr hx
  have hva := Aside0.mk hv
  clear hv
  go_enter Try.func34, Try.ntmps34
  go_wp2_with (first
    | (go_at_call 45; refine (size_any h'.out).mono ?_; rw [he'.out]; rintro r w1 ⟨rfl, n1, rfl⟩))
  go_quiet (fail)
  go_wp2
  go_quiet (fail)
  go_wp2
  have hvb := Aside0.mk (val_or (h'.out.bs.drop i) hva.out)
  go_loopw [6, 69] (fun v6 v69 wr => ∃ j z : Nat, j ≤ N + 1 ∧ v6 = .int .u64 z ∧ v69 = .int .i64 j ∧ Aside0 (z = valF ((b.drop i).take j)) ∧ ∃ n, wr = w.drewN n) (fun _ v _ => N + 1 - (intOf v).toNat)
  case atStart => exact ⟨0, 0, Nat.zero_le _, rfl, rfl, ⟨by simp [valF]⟩, dd _ _ _⟩
  case round =>
    obtain ⟨j, z, hj, rfl, rfl, hz, n, rfl⟩ := hrel
    by_cases hlt : j < N + 1
    · have hb2 : i + j < b.length := by omega
      obtain ⟨ad2, e2, hc⟩ := h'.out.at_ (i + j) hb2
      injection e2 with e2
      subst e2
      obtain ⟨y, hy⟩ : ∃ y, y = b.getD (i + j) 0 := ⟨_, rfl⟩
      have hcj : (w.drewN n).cell? ((ad.add i).add j) = some (.int .u8 y) := by rw [Go.Deep.add_add, hy]; exact hc
      have hor := hvb.out j (by omega) y (by rw [hy]; simp [hb2])
      have hor' := Aside0.mk hor
      clear hor hc hy
      go_wp2
      go_roundw
      case rel => exact ⟨j + 1, valF ((b.drop i).take (j + 1)), by omega, by rw [hz.out]; exact congrArg _ hor'.out, by go_num, ⟨rfl⟩, _, rfl⟩
      case measure => simp [intOf]; omega
    · have hjN : j = N + 1 := by omega
      have hzz := hz.out
      rw [hjN] at hzz
      have hz64 : z < 18446744073709551616 := by rw [hzz]; exact hva.out
      have hzz' := Aside0.mk hzz
      clear hzz hjN
      have f1 : (w.drewN n).frozen? ⟨p, 1, none⟩ = false := free_at (w := w.drewN n) h'.out.hp 1
      go_wp2_with (go_at_call 47; refine (unzz_any z _ hz64).mono ?_; rintro r w2 ⟨rfl, rfl⟩)
      go_ret
      rw [Num, hr'.out]
      refine ⟨by rw [hzz'.out]; rfl, ⟨i + (N + 1), ?_, rfl⟩, ((Kp.refl _ w).drewN n).setp 1 _⟩
      refine h'.out.set ?_ (by omega) (((Kp.refl _ w).drewN n).setp 1 _)
      rw [set_at (w := w.drewN n) h'.out.hp]
      rfl

set_option maxHeartbeats 1000000 in
theorem num_t {w : World} {ok : Nat → Prop} {p c i N : Nat} {A : Option Addr} {b : List Int} {x : Int} (h : Cur w ok p A c b i 0) (he : szc (b.drop i) = (N + 1, 0)) (h1 : N < 10) (h2 : i + N < b.length) (hx : b.getD (i + N) 0 = x)
    (hr : rdI (b.drop i) 0 = (uzz (valF ((b.drop i).take (N + 1))), b.drop (i + (N + 1)), 0)) (hv : valF ((b.drop i).take (N + 1)) < 18446744073709551616) (f1 : decide (1 < (N : Int) + 1) = true) (f2 : (x == 0) = false) (f3 : ((N : Int) + 1 == 10) = true) (f4 : (x != 1) = false) :
    Calls Try.prog 34 #[.pointer (some ⟨p, 0, none⟩)] w (Num w ok p c i A b 0) := by
  have c2 : w.cell? ⟨p, 2, none⟩ = some (.int .i64 0) := cell_at h.hp rfl
  have c0 : ∀ n, (w.drewN n).cell? ⟨p, 0, none⟩ = some (.slice A b.length c) := fun n => cell_at (w := w.drewN n) h.hp rfl
  have c1 : ∀ n, (w.drewN n).cell? ⟨p, 1, none⟩ = some (.int .i64 i) := fun n => cell_at (w := w.drewN n) h.hp rfl
  obtain ⟨ad, rfl, hc⟩ := h.at_ (i + N) h2
  rw [hx] at hc
  have hc1 : ∀ q, (w.drewN q).cell? (ad.add (i + N)) = some (.int .u8 x) := fun q => hc
  have hb := h.hb
  have hlc : b.length ≤ c := by obtain ⟨A', c', e, hle, _⟩ := Kd.R_reads h.hR; injection e with e1 e2 e3; omega
  have h' := Aside0.mk h
  have he' := Aside0.mk he
  have hr' := Aside0.mk hr
  have hx' := Aside0.mk hx
  clear h he hr hx
  have hva := Aside0.mk hv
  clear hv
  go_enter Try.func34, Try.ntmps34
  go_wp2_with (first
    | (go_at_call 45; refine (size_any h'.out).mono ?_; rw [he'.out]; rintro r w1 ⟨rfl, n1, rfl⟩))
  go_quiet (fail)
  go_wp2
  go_quiet (fail)
  go_wp2
  have hvb := Aside0.mk (val_or (h'.out.bs.drop i) hva.out)
  go_loopw [6, 69] (fun v6 v69 wr => ∃ j z : Nat, j ≤ N + 1 ∧ v6 = .int .u64 z ∧ v69 = .int .i64 j ∧ Aside0 (z = valF ((b.drop i).take j)) ∧ ∃ n, wr = w.drewN n) (fun _ v _ => N + 1 - (intOf v).toNat)
  case atStart => exact ⟨0, 0, Nat.zero_le _, rfl, rfl, ⟨by simp [valF]⟩, dd _ _ _⟩
  case round =>
    obtain ⟨j, z, hj, rfl, rfl, hz, n, rfl⟩ := hrel
    by_cases hlt : j < N + 1
    · have hb2 : i + j < b.length := by omega
      obtain ⟨ad2, e2, hc⟩ := h'.out.at_ (i + j) hb2
      injection e2 with e2
      subst e2
      obtain ⟨y, hy⟩ : ∃ y, y = b.getD (i + j) 0 := ⟨_, rfl⟩
      have hcj : (w.drewN n).cell? ((ad.add i).add j) = some (.int .u8 y) := by rw [Go.Deep.add_add, hy]; exact hc
      have hor := hvb.out j (by omega) y (by rw [hy]; simp [hb2])
      have hor' := Aside0.mk hor
      clear hor hc hy
      go_wp2
      go_roundw
      case rel => exact ⟨j + 1, valF ((b.drop i).take (j + 1)), by omega, by rw [hz.out]; exact congrArg _ hor'.out, by go_num, ⟨rfl⟩, _, rfl⟩
      case measure => simp [intOf]; omega
    · have hjN : j = N + 1 := by omega
      have hzz := hz.out
      rw [hjN] at hzz
      have hz64 : z < 18446744073709551616 := by rw [hzz]; exact hva.out
      have hzz' := Aside0.mk hzz
      clear hzz hjN
      have f1 : (w.drewN n).frozen? ⟨p, 1, none⟩ = false := free_at (w := w.drewN n) h'.out.hp 1
      go_wp2_with (go_at_call 47; refine (unzz_any z _ hz64).mono ?_; rintro r w2 ⟨rfl, rfl⟩)
      go_ret
      rw [Num, hr'.out]
      refine ⟨by rw [hzz'.out]; rfl, ⟨i + (N + 1), ?_, rfl⟩, ((Kp.refl _ w).drewN n).setp 1 _⟩
      refine h'.out.set ?_ (by omega) (((Kp.refl _ w).drewN n).setp 1 _)
      rw [set_at (w := w.drewN n) h'.out.hp]
      rfl

set_option maxHeartbeats 1000000 in
theorem num_a {w : World} {ok : Nat → Prop} {p c i N : Nat} {A : Option Addr} {b : List Int} {x : Int} (h : Cur w ok p A c b i 0) (he : szc (b.drop i) = (N + 1, 0)) (h1 : N < 10) (h2 : i + N < b.length) (hx : b.getD (i + N) 0 = x)
    (hr : rdI (b.drop i) 0 = (0, [], 3)) (f1 : decide (1 < (N : Int) + 1) = true) (f2 : (x == 0) = true) :
    Calls Try.prog 34 #[.pointer (some ⟨p, 0, none⟩)] w (Num w ok p c i A b 0) := by
  have c2 : w.cell? ⟨p, 2, none⟩ = some (.int .i64 0) := cell_at h.hp rfl
  have c0 : ∀ n, (w.drewN n).cell? ⟨p, 0, none⟩ = some (.slice A b.length c) := fun n => cell_at (w := w.drewN n) h.hp rfl
  have c1 : ∀ n, (w.drewN n).cell? ⟨p, 1, none⟩ = some (.int .i64 i) := fun n => cell_at (w := w.drewN n) h.hp rfl
  obtain ⟨ad, rfl, hc⟩ := h.at_ (i + N) h2
  rw [hx] at hc
  have hc1 : ∀ q, (w.drewN q).cell? (ad.add (i + N)) = some (.int .u8 x) := fun q => hc
  have hb := h.hb
  have hlc : b.length ≤ c := by obtain ⟨A', c', e, hle, _⟩ := Kd.R_reads h.hR; injection e with e1 e2 e3; omega
  have h' := Aside0.mk h
  have he' := Aside0.mk he
  have hr' := Aside0.mk hr
  have hx' := Aside0.mk hx
  clear h he hr hx
  go_enter Try.func34, Try.ntmps34
  go_wp2_with (first
    | (go_at_call 45; refine (size_any h'.out).mono ?_; rw [he'.out]; rintro r w1 ⟨rfl, n1, rfl⟩))
  go_quiet (fail)
  go_wp2_with (first
    | (go_at_call 46; refine (stop_ok (w := w.drewN _) (h'.out.step (fun k _ _ => rfl)) 3 (by unfold I64; omega)).mono ?_; rintro r w1 ⟨rfl, hC, hK⟩))
  go_ret
  rw [Num, hr'.out]
  exact ⟨rfl, ⟨b.length, hC, by simp⟩, ((Kp.refl _ w).drewN _).then_ hK (fun k hk => .inl hk)⟩

set_option maxHeartbeats 1000000 in
theorem num_b {w : World} {ok : Nat → Prop} {p c i N : Nat} {A : Option Addr} {b : List Int} {x : Int} (h : Cur w ok p A c b i 0) (he : szc (b.drop i) = (N + 1, 0)) (h1 : N < 10) (h2 : i + N < b.length) (hx : b.getD (i + N) 0 = x)
    (hr : rdI (b.drop i) 0 = (0, [], 3)) (f1 : decide (1 < (N : Int) + 1) = true) (f2 : (x == 0) = false) (f3 : ((N : Int) + 1 == 10) = true) (f4 : (x != 1) = true) :
    Calls Try.prog 34 #[.pointer (some ⟨p, 0, none⟩)] w (Num w ok p c i A b 0) := by
  have c2 : w.cell? ⟨p, 2, none⟩ = some (.int .i64 0) := cell_at h.hp rfl
  have c0 : ∀ n, (w.drewN n).cell? ⟨p, 0, none⟩ = some (.slice A b.length c) := fun n => cell_at (w := w.drewN n) h.hp rfl
  have c1 : ∀ n, (w.drewN n).cell? ⟨p, 1, none⟩ = some (.int .i64 i) := fun n => cell_at (w := w.drewN n) h.hp rfl
  obtain ⟨ad, rfl, hc⟩ := h.at_ (i + N) h2
  rw [hx] at hc
  have hc1 : ∀ q, (w.drewN q).cell? (ad.add (i + N)) = some (.int .u8 x) := fun q => hc
  have hb := h.hb
  have hlc : b.length ≤ c := by obtain ⟨A', c', e, hle, _⟩ := Kd.R_reads h.hR; injection e with e1 e2 e3; omega
  have h' := Aside0.mk h
  have he' := Aside0.mk he
  have hr' := Aside0.mk hr
  have hx' := Aside0.mk hx
  clear h he hr hx
  go_enter Try.func34, Try.ntmps34
  go_wp2_with (first
    | (go_at_call 45; refine (size_any h'.out).mono ?_; rw [he'.out]; rintro r w1 ⟨rfl, n1, rfl⟩))
  go_quiet (fail)
  go_wp2_with (first
    | (go_at_call 46; refine (stop_ok (w := w.drewN _) (h'.out.step (fun k _ _ => rfl)) 3 (by unfold I64; omega)).mono ?_; rintro r w1 ⟨rfl, hC, hK⟩))
  go_ret
  rw [Num, hr'.out]
  exact ⟨rfl, ⟨b.length, hC, by simp⟩, ((Kp.refl _ w).drewN _).then_ hK (fun k hk => .inl hk)⟩

end Go.Proofs.Ytjcekelmbpenkaa
