/- VarintReads: the walk. Written by mkW.py. -/
import Derived.Test.YtjcekelmbpenkaaVarU
set_option linter.unusedVariables false
set_option linter.unusedSimpArgs false
namespace Go.Proofs.Ytjcekelmbpenkaa
open Go.RowKit Go.Proofs.YtjcekelmbpenkaaW.PrintWords Mem VarPure

theorem rdIs_len' (l : List Int) (f : Int) : (rdIs l f).1.length ≤ l.length := by
  have h := rdL_le l f
  rw [rdIs]
  simp only
  split
  · simp
  · rw [rdN_len]; omega
/-- After an error nothing is left. -/
def Inv (s : List Int × Int) : Prop := s.2 ≠ 0 → s.1 = []
theorem rdI_inv {l : List Int} {f : Int} (h : Inv (l, f)) : Inv (rdI l f).2 := by
  unfold rdI
  split
  · exact h
  split
  · intro _; rfl
  · intro h; exact absurd rfl h
theorem rdL_inv {l : List Int} {f : Int} (h : Inv (l, f)) : Inv (rdL l f).2 := by
  unfold rdL
  split
  · exact rdI_inv h
  split
  · intro _; rfl
  split
  · intro _; rfl
  · exact rdI_inv h
theorem rdN_inv (k : Nat) {l : List Int} {f : Int} (h : Inv (l, f)) : Inv (rdN k l f).2 := by
  induction k generalizing l f with
  | zero => exact h
  | succ k ih => rw [rdN]; exact ih (rdI_inv h)
theorem rdIs_inv {l : List Int} {f : Int} (h : Inv (l, f)) : Inv (rdIs l f).2 := rdN_inv _ (rdL_inv h)
theorem rdS_inv {l : List Int} {f : Int} (h : Inv (l, f)) : Inv (rdS l f).2 := fun hf => by
  have := rdL_inv h hf
  show (rdL l f).2.1.drop (rdL l f).1 = []
  rw [this, List.drop_nil]
theorem inv_len {l : List Int} {f : Int} (h : Inv (l, f)) : (if f ≠ 0 then 0 else l.length) = l.length := by
  split
  · rename_i hf
    have h2 : l = [] := h hf
    rw [h2]; rfl
  · rfl

theorem RRd.drewN {w : World} {ok : Nat → Prop} {p : Nat} {l : List Int} {f : Int} (h : RRd w ok p l f) (m : Nat) : RRd (w.drewN m) ok p l f := h.step (fun _ _ _ => rfl)

set_option maxRecDepth 100000 in
set_option maxHeartbeats 2000000 in
theorem reads_main (A : Option Addr) (c : Nat) (b : List Int) (A2 : Option Addr) (c2 : Nat) (q : List Int) (w : World)
    (hX : Aside0 (Kd.C Byt w A b.length b ∧ Kd.C KI w A2 q.length q ∧ Bs b)) (hc : b.length ≤ c) (hc2 : q.length ≤ c2)
    (d1 : decide ((300 : Int) < b.length) = false) (d2 : decide ((40 : Int) < q.length) = false) (e1 : b.length ≤ 300) (e2 : q.length ≤ 40) :
    Calls Try.prog 4 #[.slice A b.length c, .slice A2 q.length c2] w fun e w' => e = .returned (.bool true) ∧ Below w.heap.size w w' := by
  go_enter Try.func4, Try.ntmps4
  go_wp2_with fail
  refine (new_any b.length c A b w hX.out.1 hX.out.2.2 (by omega)).mono ?_
  rintro r w1 ⟨p, rfl, hD1, hK1⟩
  have h1 := Aside0.mk (And.intro hD1.bound hK1)
  clear hD1 hK1
  go_wp2_with fail
  refine (rnew_any b.length c A b w1 (Kd.C_below hX.out.1 h1.out.2.none_below) hX.out.2.2 (by omega)).mono ?_
  rintro r w2 ⟨p2, rfl, hD2, hK2⟩
  have h2 := Aside0.mk (And.intro (h1.out.1.step (w1 := w2) (fun k hk hlt => hK2.block hlt (fun h => h))) (And.intro hD2 (h1.out.2.then_ hK2 (fun _ h => h.elim))))
  have z1 := h1.out.1.okp
  have z2 := hD2.okp
  have s1 := h1.out.2.size
  clear hD2 hK2
  go_wp2
  go_loopw [27] (fun v wr => ∃ (k : Nat) (l : List Int) (f : Int), k ≤ q.length ∧ v = .int .i64 k ∧ Aside0 (Inv (l, f)) ∧ Aside0 (Rdr wr (fun k => w.heap.size ≤ k ∧ k < w1.heap.size) p l f) ∧ Aside0 (RRd wr (fun k => w1.heap.size ≤ k ∧ k < w2.heap.size) p2 l f) ∧ Aside0 (Kp (fun k => w.heap.size ≤ k) w wr) ∧ w2.heap.size ≤ wr.heap.size) (fun v _ => q.length - (intOf v).toNat)
  case atStart => exact ⟨0, b, 0, Nat.zero_le _, rfl, ⟨fun h => absurd rfl h⟩, ⟨h2.out.1⟩, ⟨h2.out.2.1⟩, ⟨h2.out.2.2.mono (fun _ h => h.elim)⟩, Nat.le_refl _⟩
  case round =>
    obtain ⟨k, l, f, hk, rfl, hi, hA, hB, hK, hsz⟩ := hrel
    by_cases hlt : k < q.length
    · obtain ⟨ad, rfl, hc0⟩ := (Kd.reads_of_C (enc := Value.int .i64) (d := (0 : Int)) (h1 := fun _ => rfl) (Kd.C_below hX.out.2.1 (hK.out.below (fun _ h => h)))).at_ k (by omega) (by omega)
      obtain ⟨x, hx⟩ : ∃ x, x = q[k] := ⟨_, rfl⟩
      have hc1 : wr.cell? (ad.add k) = some (.int .i64 x) := by rw [hx]; simpa [rdOf, hlt] using hc0
      clear hx hc0
      by_cases x0 : x = 0
      · subst x0
        obtain ⟨x', l2, f2, hr⟩ : ∃ x l2 f2, rdI l f = (x, l2, f2) := ⟨_, _, _, rfl⟩
        have hr' := Aside0.mk hr
        have hi2 : Aside0 (Inv (l2, f2)) := ⟨by have := rdI_inv hi.out; rw [hr] at this; exact this⟩
        have hln := inv_len hi2.out
        clear hr
        go_wp2_with (first
          | (go_at_call 14; refine (int_any hA.out).mono ?_; rw [hr'.out]; rintro r w3 ⟨rfl, hR3, hK3⟩; have h3 := Aside0.mk (And.intro hR3 (And.intro (hB.out.kept hK3 (fun k hk he => by omega)) (And.intro (hK.out.then_ hK3 (fun k hk => .inl (by omega))) (Nat.le_trans hsz hK3.size)))); clear hR3 hK3)
          | (go_at_call 15; refine (rint_any h3.out.2.1).mono ?_; unfold RNum; rw [hr'.out]; rintro r w4 ⟨rfl, hR4, hK4⟩; have h4 := Aside0.mk (And.intro (h3.out.1.kept hK4 (fun k hk he => by omega)) (And.intro hR4 (And.intro (h3.out.2.2.1.then_ hK4 (fun k hk => .inl (by omega))) (Nat.le_trans h3.out.2.2.2 hK4.size)))); clear hR4 hK4)
          | (go_at_call 21; refine (err_any h4.out.1).mono ?_; rintro r w6 ⟨rfl, rfl⟩)
          | (go_at_call 22; refine (rerr_any h4.out.2.1).mono ?_; rintro r w7 ⟨rfl, rfl⟩)
          | (go_at_call 23; refine (len_any h4.out.1).mono ?_; rintro r w8 ⟨rfl, m8, rfl⟩)
          | (go_at_call 24; (first | (refine (rlen_any (RRd.drewN h4.out.2.1 m8)).mono ?_) | (refine (rlen_any (w := w4.drewN (m5 + m8)) (RRd.step h4.out.2.1 (fun _ _ _ => rfl))).mono ?_)); rw [hln]; rintro r w10 ⟨rfl, rfl⟩))
        go_roundw
        case rel => exact ⟨k + 1, l2, f2, by omega, by go_num, hi2, ⟨h4.out.1.step (fun _ _ _ => rfl)⟩, ⟨h4.out.2.1.step (fun _ _ _ => rfl)⟩, ⟨by first | exact h4.out.2.2.1.drewN _ | exact h5.out.2.2.1.drewN _⟩, h4.out.2.2.2⟩
        case measure => simp [intOf]; omega
      · have x0' : (x == 0) = false := by simpa using x0
        clear x0
        by_cases x1 : x = 1
        · subst x1
          clear x0'
          obtain ⟨x', l2, f2, hr⟩ : ∃ x l2 f2, rdIs l f = (x, l2, f2) := ⟨_, _, _, rfl⟩
          have hr' := Aside0.mk hr
          have hi2 : Aside0 (Inv (l2, f2)) := ⟨by have := rdIs_inv hi.out; rw [hr] at this; exact this⟩
          have hln := inv_len hi2.out
          clear hr
          go_wp2_with (first
            | (go_at_call 17; refine (ints_any hA.out).mono ?_; rw [hr'.out]; rintro r w3 ⟨v3, rfl, hO3, hR3, hK3⟩; have hO3 := Kd.R_bound hO3; obtain ⟨A3, c3, rfl, hc3, _⟩ := Kd.R_reads hO3; have h3 := Aside0.mk (And.intro hR3 (And.intro (hB.out.kept hK3 (fun k hk he => by omega)) (And.intro (hK.out.then_ hK3 (fun k hk => .inl (by omega))) (And.intro (Nat.le_trans hsz hK3.size) hO3)))); clear hR3 hK3 hO3)
            | (go_at_call 18; refine (rints_any h3.out.2.1).mono ?_; rw [hr'.out]; rintro r w4 ⟨v4, rfl, hO4, hR4, hK4⟩; obtain ⟨A4, c4, rfl, hc4, hC4⟩ := Kd.R_reads hO4; have hs3 := h3.out.2.2.2.1; have h5 := Aside0.mk (And.intro (h3.out.1.kept hK4 (fun k hk he => by omega)) (And.intro hR4 (And.intro (h3.out.2.2.1.then_ hK4 (fun k hk => .inl (by omega))) (And.intro (Nat.le_trans hs3 hK4.size) (And.intro (Kd.R_kept h3.out.2.2.2.2 hK4.kept (fun k hk he => by have := hk.2.2.1; omega)) hC4))))); clear hR4 hK4 hO4 hC4)
            | (go_at_call 16; obtain ⟨_, _, hC3⟩ := Kd.R_reads' h5.out.2.2.2.2.1; refine (eqi_any c3 c4 A3 A4 x' x' _ hC3 h5.out.2.2.2.2.2 hc3 hc4 (by have := rdIs_len' l f; rw [hr'.out] at this; have := hA.out.bs.2; simp only at *; omega)).mono ?_; rw [show decide (x' = x') = true by simp]; rintro r w5 ⟨rfl, m5, rfl⟩; have h4 := Aside0.mk (And.intro (h5.out.1.step (w1 := w4.drewN m5) (fun _ _ _ => rfl)) (And.intro (h5.out.2.1.step (w1 := w4.drewN m5) (fun _ _ _ => rfl)) (And.intro (h5.out.2.2.1.drewN m5) h5.out.2.2.2.1))))
            | (go_at_call 21; refine (err_any h4.out.1).mono ?_; rintro r w6 ⟨rfl, rfl⟩)
            | (go_at_call 22; refine (rerr_any h4.out.2.1).mono ?_; rintro r w7 ⟨rfl, rfl⟩)
            | (go_at_call 23; refine (len_any h4.out.1).mono ?_; rintro r w8 ⟨rfl, m8, rfl⟩)
            | (go_at_call 24; (first | (refine (rlen_any (RRd.drewN h4.out.2.1 m8)).mono ?_) | (refine (rlen_any (w := w4.drewN (m5 + m8)) (RRd.step h4.out.2.1 (fun _ _ _ => rfl))).mono ?_)); rw [hln]; rintro r w10 ⟨rfl, rfl⟩))
          go_roundw
          case rel => exact ⟨k + 1, l2, f2, by omega, by go_num, hi2, ⟨h4.out.1.step (fun _ _ _ => rfl)⟩, ⟨h4.out.2.1.step (fun _ _ _ => rfl)⟩, ⟨by first | exact h4.out.2.2.1.drewN _ | exact h5.out.2.2.1.drewN _⟩, h4.out.2.2.2⟩
          case measure => simp [intOf]; omega
        · have x1' : (x == 1) = false := by simpa using x1
          clear x1
          obtain ⟨x', l2, f2, hr⟩ : ∃ x l2 f2, rdS l f = (x, l2, f2) := ⟨_, _, _, rfl⟩
          have hr' := Aside0.mk hr
          have hi2 : Aside0 (Inv (l2, f2)) := ⟨by have := rdS_inv hi.out; rw [hr] at this; exact this⟩
          have hln := inv_len hi2.out
          clear hr
          go_wp2_with (first
            | (go_at_call 19; refine (string_any hA.out).mono ?_; rw [hr'.out]; rintro r w3 ⟨rfl, hR3, hK3⟩; have h3 := Aside0.mk (And.intro hR3 (And.intro (hB.out.kept hK3 (fun k hk he => by omega)) (And.intro (hK.out.then_ hK3 (fun k hk => .inl (by omega))) (Nat.le_trans hsz hK3.size)))); clear hR3 hK3)
            | (go_at_call 20; refine (rstring_any h3.out.2.1 (rdL_inv hi.out)).mono ?_; rw [hr'.out]; rintro r w4 ⟨rfl, hR4, hK4⟩; have h4 := Aside0.mk (And.intro (h3.out.1.kept hK4 (fun k hk he => by omega)) (And.intro hR4 (And.intro (h3.out.2.2.1.then_ hK4 (fun k hk => .inl (by omega))) (Nat.le_trans h3.out.2.2.2 hK4.size)))); clear hR4 hK4)
            | (go_at_call 21; refine (err_any h4.out.1).mono ?_; rintro r w6 ⟨rfl, rfl⟩)
            | (go_at_call 22; refine (rerr_any h4.out.2.1).mono ?_; rintro r w7 ⟨rfl, rfl⟩)
            | (go_at_call 23; refine (len_any h4.out.1).mono ?_; rintro r w8 ⟨rfl, m8, rfl⟩)
            | (go_at_call 24; (first | (refine (rlen_any (RRd.drewN h4.out.2.1 m8)).mono ?_) | (refine (rlen_any (w := w4.drewN (m5 + m8)) (RRd.step h4.out.2.1 (fun _ _ _ => rfl))).mono ?_)); rw [hln]; rintro r w10 ⟨rfl, rfl⟩))
          go_roundw
          case rel => exact ⟨k + 1, l2, f2, by omega, by go_num, hi2, ⟨h4.out.1.step (fun _ _ _ => rfl)⟩, ⟨h4.out.2.1.step (fun _ _ _ => rfl)⟩, ⟨by first | exact h4.out.2.2.1.drewN _ | exact h5.out.2.2.1.drewN _⟩, h4.out.2.2.2⟩
          case measure => simp [intOf]; omega
    · have hke : k = q.length := by omega
      clear hke
      go_wp2_with (go_at_call 11; refine (works_any _).mono ?_; rintro r w9 ⟨rfl, hB9⟩)
      go_ret
      exact ⟨rfl, below_then (hK.out.below (fun _ h => h)) hK.out.size hB9⟩

set_option maxHeartbeats 1000000 in
theorem reads_walk (A : Option Addr) (c : Nat) (b : List Int) (A2 : Option Addr) (c2 : Nat) (q : List Int) (w : World)
    (hc : b.length ≤ c) (hC : Kd.C Byt w A b.length b) (hg : b.length * 1 ≤ 140737488351232 ∧ ∀ x ∈ b, (Lit.int .u8 x).wf = true)
    (hc2 : q.length ≤ c2) (hC2 : Kd.C KI w A2 q.length q) (hg2 : q.length * 8 ≤ 140737488351232 ∧ ∀ x ∈ q, (Lit.int .i64 x).wf = true) :
    Calls Try.prog 4 #[.slice A b.length c, .slice A2 q.length c2] w fun e w' => e = .returned (.bool true) ∧ Below w.heap.size w w' := by
  have hX := Aside0.mk (And.intro hC (And.intro hC2 (wf_u8 hg.2)))
  have hbl := hg.1
  have hql := hg2.1
  clear hg hg2 hC hC2
  by_cases e1 : 300 < b.length
  · have d1 : decide ((300 : Int) < b.length) = true := by simp; omega
    go_enter Try.func4, Try.ntmps4
    go_wp2_with (go_at_call 11; refine (works_any _).mono ?_; rintro r w1 ⟨rfl, hB⟩)
    go_ret
    exact ⟨rfl, hB⟩
  have d1 : decide ((300 : Int) < b.length) = false := by simp; omega
  by_cases e2 : 40 < q.length
  · have d2 : decide ((40 : Int) < q.length) = true := by simp; omega
    go_enter Try.func4, Try.ntmps4
    go_wp2_with (go_at_call 11; refine (works_any _).mono ?_; rintro r w1 ⟨rfl, hB⟩)
    go_ret
    exact ⟨rfl, hB⟩
  have d2 : decide ((40 : Int) < q.length) = false := by simp; omega
  exact reads_main A c b A2 c2 q w hX hc hc2 d1 d2 (by omega) (by omega)
end Go.Proofs.Ytjcekelmbpenkaa
