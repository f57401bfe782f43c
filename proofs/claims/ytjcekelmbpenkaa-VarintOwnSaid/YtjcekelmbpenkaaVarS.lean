/- The reference's reader: Int, length, Ints, String. -/
import Derived.Test.YtjcekelmbpenkaaVarR
set_option linter.unusedVariables false
set_option linter.unusedSimpArgs false
namespace Go.Proofs.Ytjcekelmbpenkaa
open Go.RowKit Go.Proofs.YtjcekelmbpenkaaW.PrintWords Mem VarPure

theorem valF_drop_le (l : List Int) (j : Nat) : valF (l.drop j) ≤ valF l := by
  have h := valF_append (l.take j) (l.drop j)
  rw [List.take_append_drop] at h
  rw [h]
  have : 1 ≤ 128 ^ (l.take j).length := Nat.one_le_pow _ _ (by omega)
  calc valF (l.drop j) = 1 * valF (l.drop j) := by rw [Nat.one_mul]
    _ ≤ 128 ^ (l.take j).length * valF (l.drop j) := Nat.mul_le_mul_right _ this
    _ ≤ _ := Nat.le_add_left _ _
theorem runz_any (z : Nat) (w : World) (hz : z < 18446744073709551616) : Calls Try.prog 38 #[.int .u64 z] w fun e w' => e = .returned (.int .i64 (uzz z)) ∧ ∃ n, w' = w.drewN n :=
  (PVarintReads.burnishref02_unzigzag.calls z _ w (runzz_f z hz)).mono (fun e w' h => ⟨h.1, h.2.out⟩)
theorem rsize_any (c : Nat) (A : Option Addr) (l : List Int) (w : World) (hC : Kd.C Byt w A l.length l) (hc : l.length ≤ c) (hl : l.length ≤ 100000) : Calls Try.prog 36 #[.slice A l.length c] w fun e w' => e = .returned (.tuple #[.int .i64 (szf l).1, .int .i64 (szf l).2]) ∧ ∃ n, w' = w.drewN n :=
  (PVarintReads.burnishref02_size.calls 12 A c l _ _ w hC hc (rsize_f l (by omega))).mono (fun e w' h => ⟨h.1, h.2.out⟩)

/-- A row from the n-th byte on. -/
theorem row_from {A : Option Addr} {c n : Nat} {l : List Int} (j : Int) (hj : j = (n : Int)) (hn : n ≤ l.length) (hc : l.length ≤ c) :
    ∃ X, (∀ W : World, (Instr.slice 22 (.slice A l.length c) (some (.int .i64 j)) none none).run Try.prog W = .ok (.slice X (l.length - n) (c - n)) W) ∧ ∀ W, Kd.C Byt W A l.length l → Kd.C Byt W X (l.drop n).length (l.drop n) := by
  subst hj
  obtain ⟨i0, hi, hz⟩ := info5'
  refine ⟨if c = n then A else A.map (·.add (n * 1)), fun W => ?_, fun W h => Kd.C_drop h hn hc⟩
  have := cut_from 22 5 .i64 Try.underlying22 hi 1 hz A l.length c (n : Int) (by omega) (by omega) W
  rw [this]
  simp only [Int.toNat_natCast]
/-- What a read of a number does. -/
def RNum (w : World) (ok : Nat → Prop) (p : Nat) (l : List Int) (f : Int) (e : Ending) (w' : World) : Prop :=
  e = .returned (.int .i64 (rdI l f).1) ∧ RRd w' ok p (rdI l f).2.1 (rdI l f).2.2 ∧ Kp (fun k => k = p) w w'

set_option maxHeartbeats 1000000 in
theorem rint_any {w : World} {ok : Nat → Prop} {p : Nat} {l : List Int} {f : Int} (h : RRd w ok p l f) : Calls Try.prog 15 #[.pointer (some ⟨p, 0, none⟩)] w (RNum w ok p l f) := by
  have hh := Aside0.mk h
  by_cases hf : f = 0
  · subst hf
    obtain ⟨A, c, g⟩ := h.ex
    have c1 : w.cell? ⟨p, 1, none⟩ = some (.slice A l.length c) := cell_at g.hp rfl
    have hC := Aside0.mk (And.intro (g.hC w (fun _ _ _ _ => rfl)) g)
    have hl := g.hl
    have hlc := g.hc
    clear g h
    by_cases he : (szf l).2 = 0
    · obtain ⟨n, hn⟩ : ∃ n, szf l = (n, 0) := ⟨(szf l).1, by rw [← he]⟩
      have hle := szf_le l
      have hpos := (szf_ok he).1
      rw [hn] at hle hpos
      simp only at hle hpos
      have hv := val_lt hC.out.2.bs he
      rw [hn] at hv
      have hr := rdI_ok hn
      obtain ⟨N, rfl⟩ : ∃ N, n = N + 1 := ⟨cnt 10 l, hpos⟩
      clear hpos
      have hX := Aside0.mk (And.intro hn (And.intro hv hr))
      clear hn he hv hr
      go_enter Try.func15, Try.ntmps15
      go_wp2_with (first
        | (go_at_call 35; refine (rbad_any hh.out).mono ?_; rw [show ((0 : Int) != 0) = false from rfl]; rintro r w1 ⟨rfl, rfl⟩)
        | (go_at_call 36; refine (rsize_any c A l _ hC.out.1 hlc hl).mono ?_; rw [hX.out.1]; rintro r w2 ⟨rfl, m2, rfl⟩))
      have hNl : N < l.length := by omega
      go_loopw [5, 6] (fun v5 v6 wr => ∃ (j z : Nat) (i : Int), j ≤ N + 1 ∧ v5 = .int .u64 z ∧ v6 = .int .i64 i ∧ i = (j : Int) - 1 ∧ Aside0 (z = valF ((l.take (N + 1)).drop j)) ∧ ∃ m, wr = w1.drewN m) (fun _ v _ => ((intOf v) + 1).toNat)
      case atStart => exact ⟨N + 1, 0, N, Nat.le_refl _, rfl, rfl, by omega, ⟨by rw [List.drop_of_length_le (by rw [List.length_take]; omega)]; rfl⟩, _, rfl⟩
      case round =>
        obtain ⟨j, z, i, hj, rfl, rfl, hi, hz, m, rfl⟩ := hrel
        by_cases hlt : 0 < j
        · obtain ⟨i0, rfl⟩ : ∃ k, j = k + 1 := ⟨j - 1, by omega⟩
          obtain rfl : i = (i0 : Int) := by omega
          clear hi
          have hil : i0 < l.length := by omega
          obtain ⟨ad, rfl, hc0⟩ := (Kd.reads_of_C (enc := Value.int .u8) (d := (0 : Int)) (h1 := fun _ => rfl) hC.out.1).at_ i0 (by omega) (by omega)
          obtain ⟨y, hy⟩ : ∃ y, y = l[i0] := ⟨_, rfl⟩
          have hc3 : (w1.drewN m).cell? (ad.add i0) = some (.int .u8 y) := by rw [hy]; simpa [rdOf, hil] using hc0
          have hyb := hC.out.2.bs y (by rw [hy]; exact List.getElem_mem hil)
          have hstep : valF ((l.take (N + 1)).drop i0) = y.toNat % 128 + 128 * z := by
            have hil2 : i0 < (l.take (N + 1)).length := by rw [List.length_take]; omega
            rw [List.drop_eq_getElem_cons hil2, valF, ← hz.out, List.getElem_take, ← hy]
          have hzb : valF ((l.take (N + 1)).drop i0) < 18446744073709551616 := Nat.lt_of_le_of_lt (valF_drop_le _ _) hX.out.2.1
          have hst := Aside0.mk (And.intro hstep hzb)
          have hyb' := Aside0.mk hyb
          clear hstep hzb hy hc0 hyb
          go_wp2
          go_roundw
          case rel =>
            refine ⟨i0, valF ((l.take (N + 1)).drop i0), _, by omega, ?_, rfl, by first | rfl | omega, ⟨rfl⟩, _, rfl⟩
            have h1 := hst.out.1
            have h2 := hst.out.2
            have h3 := hyb'.out
            rw [h1] at h2 ⊢
            congr 1
            simp only [wrap_u64, Int.tmod_eq_emod_of_nonneg h3.1]
            omega
          case measure => simp [intOf] <;> omega
        · have hj0 : j = 0 := by omega
          subst hj0
          obtain rfl : i = -1 := by omega
          have hz64 : z < 18446744073709551616 := by rw [hz.out]; exact hX.out.2.1
          have hzA := Aside0.mk (show z = valF (l.take (N + 1)) from hz.out)
          have f1 : (w1.drewN m).frozen? ⟨p, 1, none⟩ = false := free_at (w := w1.drewN m) hC.out.2.hp 1
          clear hi hlt
          obtain ⟨X, hcut, hCX⟩ := row_from (A := A) (n := N + 1) ((N : Int) + 1) (by omega) hle.1 hlc
          have hCX' := Aside0.mk hCX
          clear hCX
          go_wp2_with (go_at_call 38; refine (runz_any z _ hz64).mono ?_; rintro r w5 ⟨rfl, n5, rfl⟩)
          go_ret
          rw [RNum, hX.out.2.2]
          refine ⟨by rw [← hzA.out]; rfl, ⟨⟨X, c - (N + 1), hC.out.2.set ?_ ((((Kp.refl _ w1).drewN m).setp 1 _).drewN n5) (by rw [List.length_drop]; omega) (by rw [List.length_drop]; omega) hCX'.out (hC.out.2.bs.drop _)⟩⟩, (((Kp.refl _ w1).drewN m).setp 1 _).drewN n5⟩
          rw [List.length_drop]
          show ((w1.drewN m).setCell ⟨p, 1, none⟩ _).heap[p]? = _
          rw [set_at (w := w1.drewN m) hC.out.2.hp]
          rfl
    · have hd : ((szf l).2 != 0) = true := by simpa using he
      have hr : rdI l 0 = (0, [], (szf l).2) := by rw [rdI, if_neg (by simp), if_pos he]
      have hr' := Aside0.mk hr
      clear hr he
      go_enter Try.func15, Try.ntmps15
      go_wp2_with (first
        | (go_at_call 35; refine (rbad_any hh.out).mono ?_; rw [show ((0 : Int) != 0) = false from rfl]; rintro r w1 ⟨rfl, rfl⟩)
        | (go_at_call 36; refine (rsize_any c A l _ hC.out.1 hlc hl).mono ?_; rintro r w2 ⟨rfl, m2, rfl⟩)
        | (go_at_call 37; refine (rfail_any (w := w1.drewN m2) (hh.out.step (fun _ _ _ => rfl)) _).mono ?_; rintro r w3 ⟨rfl, hR3, hK3⟩))
      go_ret
      rw [RNum, hr'.out]
      exact ⟨rfl, hR3, ((Kp.refl _ _).drewN m2).then_ hK3 (fun _ h => .inl h)⟩
  · have hd : (f != 0) = true := by simpa using hf
    have hf' := Aside0.mk hf
    clear h hf
    go_enter Try.func15, Try.ntmps15
    go_wp2_with (go_at_call 35; refine (rbad_any hh.out).mono ?_; rw [hd]; rintro r w1 ⟨rfl, rfl⟩)
    go_ret
    rw [RNum, rdI_fail _ hf'.out]
    exact ⟨rfl, hh.out, Kp.refl _ _⟩
end Go.Proofs.Ytjcekelmbpenkaa
