/- VarintOwn: the walk. -/
import Derived.Test.YtjcekelmbpenkaaVarS
set_option linter.unusedVariables false
set_option linter.unusedSimpArgs false
namespace Go.Proofs.Ytjcekelmbpenkaa
open Go.RowKit Go.Proofs.YtjcekelmbpenkaaW.PrintWords Mem VarPure

theorem int_nil (w : World) : Calls Try.prog 14 #[.pointer none] w fun e w' => e = .returned (.int .i64 0) ∧ w' = w := by
  go_enter Try.func14, Try.ntmps14
  go_wp2_with (go_at_call 33; refine (ok_nil _).mono ?_; rintro r w1 ⟨rfl, rfl⟩)
  go_ret
  exact ⟨rfl, rfl⟩
theorem ints_nil (w : World) : Calls Try.prog 17 #[.pointer none] w fun e w' => e = .returned (.slice none 0 0) ∧ w' = w := by
  go_enter Try.func17, Try.ntmps17
  go_wp2_with (go_at_call 33; refine (ok_nil _).mono ?_; rintro r w1 ⟨rfl, rfl⟩)
  go_ret
  exact ⟨rfl, rfl⟩
theorem string_nil (w : World) : Calls Try.prog 19 #[.pointer none] w fun e w' => e = .returned (.string { data := #[] }) ∧ w' = w := by
  go_enter Try.func19, Try.ntmps19
  go_wp2_with (go_at_call 33; refine (ok_nil _).mono ?_; rintro r w1 ⟨rfl, rfl⟩)
  go_ret
  exact ⟨rfl, rfl⟩
theorem err_nil (w : World) : Calls Try.prog 21 #[.pointer none] w fun e w' => e = .returned (.int .i64 1) ∧ w' = w := by
  go_enter Try.func21, Try.ntmps21
  go_wp2_with (go_at_call 33; refine (ok_nil _).mono ?_; rintro r w1 ⟨rfl, rfl⟩)
  go_ret
  exact ⟨rfl, rfl⟩
theorem len_nil (w : World) : Calls Try.prog 23 #[.pointer none] w fun e w' => e = .returned (.int .i64 0) ∧ w' = w := by
  go_enter Try.func23, Try.ntmps23
  go_wp2_with (go_at_call 33; refine (ok_nil _).mono ?_; rintro r w1 ⟨rfl, rfl⟩)
  go_ret
  exact ⟨rfl, rfl⟩

/-- A reader that was not made. -/
def Zero (w : World) (p : Nat) : Prop := w.cell? ⟨p, 3, none⟩ = some (.bool false)
theorem ok_zero {w : World} {p : Nat} (h : Zero w p) : Calls Try.prog 33 #[.pointer (some ⟨p, 0, none⟩)] w fun e w' => e = .returned (.bool false) ∧ w' = w := by
  have c3 : w.cell? ⟨p, 3, none⟩ = some (.bool false) := h
  clear h
  go_enter Try.func33, Try.ntmps33
  go_wp2
  go_ret
  exact ⟨rfl, rfl⟩
theorem int_zero {w : World} {p : Nat} (h : Zero w p) : Calls Try.prog 14 #[.pointer (some ⟨p, 0, none⟩)] w fun e w' => e = .returned (.int .i64 0) ∧ w' = w := by
  have h' := Aside0.mk h
  clear h
  go_enter Try.func14, Try.ntmps14
  go_wp2_with (go_at_call 33; refine (ok_zero h'.out).mono ?_; rintro r w1 ⟨rfl, rfl⟩)
  go_ret
  exact ⟨rfl, rfl⟩
theorem err_zero {w : World} {p : Nat} (h : Zero w p) : Calls Try.prog 21 #[.pointer (some ⟨p, 0, none⟩)] w fun e w' => e = .returned (.int .i64 1) ∧ w' = w := by
  have h' := Aside0.mk h
  clear h
  go_enter Try.func21, Try.ntmps21
  go_wp2_with (go_at_call 33; refine (ok_zero h'.out).mono ?_; rintro r w1 ⟨rfl, rfl⟩)
  go_ret
  exact ⟨rfl, rfl⟩
theorem len_zero {w : World} {p : Nat} (h : Zero w p) : Calls Try.prog 23 #[.pointer (some ⟨p, 0, none⟩)] w fun e w' => e = .returned (.int .i64 0) ∧ w' = w := by
  have h' := Aside0.mk h
  clear h
  go_enter Try.func23, Try.ntmps23
  go_wp2_with (go_at_call 33; refine (ok_zero h'.out).mono ?_; rintro r w1 ⟨rfl, rfl⟩)
  go_ret
  exact ⟨rfl, rfl⟩

theorem sclone_any (n c : Nat) (A : Option Addr) (l : List Int) (w : World) (hk : Kd.C Byt w A n l) (hn : n ≤ 140737488355328) :
    Calls Try.prog 30 #[.slice A n c] w fun e w' => ∃ v, e = .returned v ∧ Kd.R Byt 5 w' 0 (fun k => w.heap.size ≤ k) v l ∧ Kp (fun _ => False) w w' := by
  have hl := hk.1
  rcases A with _ | ad
  · have h0 : n = 0 := by
      rcases Nat.eq_zero_or_pos n with h0 | h0
      · exact h0
      · obtain ⟨ad, h', _⟩ := hk.2.2 h0
        cases h'
    have hl0 : l = [] := List.eq_nil_of_length_eq_zero (by omega)
    subst hl0
    clear hl
    subst h0
    have hne := fun w => Lib.run_eql_slice_nil (P := Try.prog) w 22 5 none 0 c 0 0 Try.underlying22
    clear hk
    go_enter Try.func30, Try.ntmps30
    go_wp2
    go_ret
    exact ⟨_, rfl, Kd.R_nil _ _ _ _ _, Kp.refl _ _⟩
  · have hne := fun w => Lib.run_eql_slice_nil (P := Try.prog) w 22 5 (some ad) n c 0 0 Try.underlying22
    have hk' := Aside0.mk hk
    clear hk hl
    go_enter Try.func30, Try.ntmps30
    go_wp2_with (at_builtin; refine Kd.R_append_rows Byt (Rr := fun x cs => cs = [.int .u8 x]) 0 (by rfl) (.tmp 5) (.tmp 6) 22 5 (.int .u8 0) 1 (by rfl) Try.underlying22 info5 rfl (by decide) (by decide) (.slice (some ⟨w.heap.size, 0, none⟩) 0 0) [] l (some ad) n c (fun k => w.heap.size ≤ k) (fun _ => False) (by rfl) (by rfl) (own_empty w 0 #[] _ (Nat.le_refl _) (Nat.zero_le _) rfl) (Kd.C_alloc hk'.out _) (fun _ _ h => h) (fun _ h => h.elim) (fun k hk => by simp at hk; omega) (Below.refl _ _) (Nat.zero_le _) (by simp; omega) ?_; intro v1 w2 hRA hBA hgA hatA; simp only [List.nil_append] at hRA)
    go_ret
    exact ⟨_, rfl, hRA, ((Kp.refl _ w).alloc _).grown hgA (fun k hk => .inr (by simp [Value.ownBlock] at hk; omega))⟩

set_option maxRecDepth 100000 in
set_option maxHeartbeats 2000000 in
theorem own_main (A : Option Addr) (c : Nat) (b : List Int) (n : Int) (w : World)
    (hX : Aside0 (Kd.C Byt w A b.length b ∧ Bs b ∧ I64 n)) (hc : b.length ≤ c) (d1 : decide ((100 : Int) < b.length) = false) (e1 : b.length ≤ 100) :
    Calls Try.prog 6 #[.slice A b.length c, .int .i64 n] w fun e w' => e = .returned (.bool true) ∧ Below w.heap.size w w' := by
  have hnl := (encI_len n).2
  go_enter Try.func6, Try.ntmps6
  go_wp2_with fail
  refine (sclone_any b.length c A b w hX.out.1 (by omega)).mono ?_
  rintro r w1 ⟨v1, rfl, hR1, hK1⟩
  obtain ⟨A1, c1, rfl, hc1, hC1⟩ := Kd.R_reads hR1
  have h1 := Aside0.mk (And.intro (Kd.R_mono (Kd.R_bound hR1) (ok' := fun k => w.heap.size ≤ k ∧ k < w1.heap.size) (fun k hk => ⟨hk.1, hk.2.2.1⟩)) (And.intro hK1 hC1))
  clear hR1 hK1 hC1
  go_wp2_with fail
  refine (aint_any b.length c1 A1 b n w1 h1.out.2.2 hX.out.2.2 (by omega)).mono ?_
  rintro r w2 ⟨v2, rfl, hR2, hK2⟩
  obtain ⟨E, hE⟩ : ∃ E, E = b ++ encI n := ⟨_, rfl⟩
  rw [← hE] at hR2
  have hEl : E.length ≤ 200 := by rw [hE, List.length_append]; omega
  have hEE := Aside0.mk hE
  clear hE
  obtain ⟨A2, c2, rfl, hc2, _⟩ := Kd.R_reads hR2
  have h2 := Aside0.mk (And.intro hR2 (And.intro hK2 (Kd.C_below h1.out.2.2 hK2.none_below)))
  clear hR2 hK2
  go_wp2_with fail
  refine (new_any b.length c1 A1 b w2 h2.out.2.2 hX.out.2.1 (by omega)).mono ?_
  rintro r w3 ⟨p, rfl, hD3, hK3⟩
  have h3 : Aside0 (Kd.R Byt 5 w3 0 (fun k => w.heap.size ≤ k ∧ k < w1.heap.size) (.slice A1 b.length c1) b ∧ Kd.R Byt 5 w3 0 (fun k => w1.heap.size ≤ k) (.slice A2 E.length c2) E ∧ Rdr w3 (fun k => w1.heap.size ≤ k) p b 0 ∧ Kp (fun k => w.heap.size ≤ k) w w3) :=
    ⟨Kd.R_below (Kd.R_below h1.out.1 h2.out.2.1.none_below) hK3.none_below, Kd.R_below h2.out.1 hK3.none_below, hD3.mono (fun k hk => by have := h2.out.2.1.size; omega), ((h1.out.2.1.then_ h2.out.2.1 (fun _ h => h.elim)).then_ hK3 (fun _ h => h.elim)).mono (fun _ h => h.elim)⟩
  have hz1 := h1.out.2.1.size
  clear hD3 hK3 h2
  go_wp2_with fail
  go_loopw [26] (fun v wr => ∃ (j : Nat) (o : List Int), j ≤ b.length ∧ v = .int .i64 j ∧ o.length = b.length ∧ Aside0 (Kd.R Byt 5 wr 0 (fun k => w.heap.size ≤ k ∧ k < w1.heap.size) (.slice A1 b.length c1) o) ∧ Aside0 (Kp (fun k => w.heap.size ≤ k ∧ k < w1.heap.size) w3 wr)) (fun v _ => b.length - (intOf v).toNat)
  case atStart => exact ⟨0, b, Nat.zero_le _, rfl, rfl, ⟨h3.out.1⟩, ⟨Kp.refl _ _⟩⟩
  case round =>
    obtain ⟨j, o, hj, rfl, ho, hO, hK⟩ := hrel
    by_cases hlt : j < b.length
    · obtain ⟨g, hA1, hgo⟩ : ∃ g, A1 = some ⟨g, 0, none⟩ ∧ (w.heap.size ≤ g ∧ g < w1.heap.size) := by
        obtain ⟨h0, inner, how, hr⟩ := hO.out
        rcases how.2 with ⟨he, hz⟩ | ⟨g, cap, cur, he, _⟩
        · omega
        · injection he with e1 e2 e3
          exact ⟨g, e1, h0 g (by rw [e1]; rfl)⟩
      subst hA1
      obtain ⟨k1, k2⟩ := Kd.R_celln (0 : Int) hO.out (j : Int) (by omega) (by omega)
      simp only [Int.toNat_natCast] at k1 k2
      go_wp2
      go_roundw
      case rel => exact ⟨j + 1, o.set j 200, by omega, by go_num, by rw [List.length_set]; exact ho, ⟨Kd.R_putn hO.out j 200⟩, ⟨hK.out.setCell (.inl hgo) _⟩⟩
      case measure => simp [intOf]; omega
    · have h4 : Aside0 (Kd.R Byt 5 wr 0 (fun k => w1.heap.size ≤ k) (.slice A2 E.length c2) E ∧ Rdr wr (fun k => w1.heap.size ≤ k) p b 0 ∧ Kp (fun k => w.heap.size ≤ k) w wr) :=
        ⟨Kd.R_kept h3.out.2.1 hK.out.kept (fun k hk he => by omega), h3.out.2.2.1.kept hK.out (fun k hk he => by omega), h3.out.2.2.2.then_ hK.out (fun k hk => .inl hk.1)⟩
      clear hO hK
      go_wp2_with fail
      obtain ⟨W, hW⟩ : ∃ W, W = wr.alloc (.cells #[.slice none 0 0, .int .i64 0, .int .i64 0, .bool false] 46) := ⟨_, rfl⟩
      have hzz : Zero W wr.heap.size := by rw [hW]; exact cell_at (heap_alloc_new wr _) rfl
      have hzb : W.heap[wr.heap.size]? = some (.cells #[.slice none 0 0, .int .i64 0, .int .i64 0, .bool false] 46 (0, 0)) := by rw [hW]; exact heap_alloc_new wr _
      have hkw : Kp (fun _ => False) wr W := by rw [hW]; exact (Kp.refl _ wr).alloc _
      rw [← hW]
      clear hW hzz
      have hrz := h4.out.2.1.lt
      have h5 : Aside0 (Kd.R Byt 5 W 0 (fun k => w1.heap.size ≤ k) (.slice A2 E.length c2) E ∧ Rdr W (fun k => w1.heap.size ≤ k ∧ k < wr.heap.size) p b 0 ∧ Kp (fun k => w.heap.size ≤ k) w W ∧ wr.heap.size < W.heap.size) :=
        ⟨Kd.R_below h4.out.1 hkw.none_below, h4.out.2.1.bound.kept hkw (fun k hk h => h), h4.out.2.2.then_ hkw (fun _ h => h.elim), blk_lt' hzb⟩
      have hzb' := Aside0.mk hzb
      clear hzb h4 hkw
      obtain ⟨pz, hpz⟩ : ∃ pz, pz = wr.heap.size := ⟨_, rfl⟩
      rw [← hpz] at h5 hzb' hrz ⊢
      have hw1p : w.heap.size ≤ pz := by have := h5.out.2.1.okp; omega
      refine (raint_any b.length c A b n W (Kd.C_below hX.out.1 (h5.out.2.2.1.below (fun _ h => h))) hX.out.2.2 (by omega)).mono ?_
      rw [← hEE.out]
      rintro r w5 ⟨v5, rfl, hR5, hK5⟩
      obtain ⟨A5, c5, rfl, hc5, hC5⟩ := Kd.R_reads hR5
      have h6 := Aside0.mk (And.intro hC5 (And.intro (Kd.R_below h5.out.1 hK5.none_below) (And.intro (h5.out.2.1.kept hK5 (fun k hk h => h)) (And.intro (h5.out.2.2.1.then_ hK5 (fun _ h => h.elim)) (hK5.blk hzb'.out (fun h => h))))))
      clear hR5 hK5 hC5 hpz
      go_wp2_with fail
      refine (eqb_any c2 c5 A2 A5 E E w5 (by obtain ⟨_, _, h⟩ := Kd.R_reads' h6.out.2.1; exact h) h6.out.1 hc2 hc5 (by omega)).mono ?_
      rw [show decide (E = E) = true by simp]
      rintro r w6 ⟨rfl, n6, rfl⟩
      have h7 := Aside0.mk (And.intro (h6.out.2.2.1.step (w1 := w5.drewN n6) (fun _ _ _ => rfl)) (And.intro (h6.out.2.2.2.1.drewN n6) (show (w5.drewN n6).heap[pz]? = _ from h6.out.2.2.2.2)))
      obtain ⟨W6, hW6⟩ : ∃ W, W = w5.drewN n6 := ⟨_, rfl⟩
      rw [← hW6] at h7 ⊢
      clear hW6
      go_wp2_with fail
      refine (int_any h7.out.1).mono ?_
      rintro r w7 ⟨rfl, hD7, hK7⟩
      have hpo := h7.out.1.okp
      have h8 := Aside0.mk (And.intro (h7.out.2.1.then_ hK7 (fun k hk => .inl (by omega))) (hK7.blk h7.out.2.2 (fun h => by have := h7.out.1.okp; omega)))
      clear hD7 hK7
      go_wp2_with fail
      refine (rnew_any b.length c A b w7 (Kd.C_below hX.out.1 (h8.out.1.below (fun _ h => h))) hX.out.2.1 (by omega)).mono ?_
      rintro r w8 ⟨p2, rfl, hD8, hK8⟩
      have hp2 := hD8.okp
      have hpz7 := blk_lt' h8.out.2
      have h9 := Aside0.mk (And.intro hD8 (And.intro (h8.out.1.then_ hK8 (fun _ h => h.elim)) (hK8.blk h8.out.2 (fun h => h))))
      clear hD8 hK8
      go_wp2_with fail
      refine (rint_any h9.out.1).mono ?_
      unfold RNum
      rintro r w9 ⟨rfl, hD9, hK9⟩
      have h10 := Aside0.mk (And.intro (h9.out.2.1.then_ hK9 (fun k hk => .inl (by omega))) (show Zero w9 pz from cell_at (hK9.blk h9.out.2.2 (fun h => by omega)) rfl))
      clear hD9 hK9
      go_wp2_with fail
      refine (err_nil _).mono ?_
      rintro r _ ⟨rfl, rfl⟩
      go_wp2_with fail
      refine (int_nil _).mono ?_
      rintro r _ ⟨rfl, rfl⟩
      go_wp2_with fail
      refine (ints_nil _).mono ?_
      rintro r _ ⟨rfl, rfl⟩
      go_wp2_with fail
      refine (string_nil _).mono ?_
      rintro r _ ⟨rfl, rfl⟩
      go_wp2_with fail
      refine (len_nil _).mono ?_
      rintro r _ ⟨rfl, rfl⟩
      go_wp2_with fail
      refine (err_zero h10.out.2).mono ?_
      rintro r _ ⟨rfl, rfl⟩
      go_wp2_with fail
      refine (int_zero h10.out.2).mono ?_
      rintro r _ ⟨rfl, rfl⟩
      go_wp2_with fail
      refine (len_zero h10.out.2).mono ?_
      rintro r _ ⟨rfl, rfl⟩
      go_wp2_with fail
      refine (works_any _).mono ?_
      rintro r w18 ⟨rfl, hB⟩
      go_wp2
      go_ret
      exact ⟨rfl, below_then (h10.out.1.below (fun _ h => h)) h10.out.1.size hB⟩

theorem own_walk (A : Option Addr) (c : Nat) (b : List Int) (n : Int) (w : World) (hc : b.length ≤ c) (hC : Kd.C Byt w A b.length b) (hg : b.length * 1 ≤ 140737488351232 ∧ ∀ x ∈ b, (Lit.int .u8 x).wf = true) (hn : (Lit.int .i64 n).wf = true) :
    Calls Try.prog 6 #[.slice A b.length c, .int .i64 n] w fun e w' => e = .returned (.bool true) ∧ Below w.heap.size w w' := by
  have hX := Aside0.mk (And.intro hC (And.intro (wf_u8 hg.2) (wf_i64 hn)))
  have hbl := hg.1
  clear hg hC hn
  by_cases e1 : 100 < b.length
  · have d1 : decide ((100 : Int) < b.length) = true := by simp; omega
    go_enter Try.func6, Try.ntmps6
    go_wp2_with (go_at_call 11; refine (works_any _).mono ?_; rintro r w1 ⟨rfl, hB⟩)
    go_ret
    exact ⟨rfl, hB⟩
  have d1 : decide ((100 : Int) < b.length) = false := by simp; omega
  exact own_main A c b n w hX hc d1 (by omega)
end Go.Proofs.Ytjcekelmbpenkaa
